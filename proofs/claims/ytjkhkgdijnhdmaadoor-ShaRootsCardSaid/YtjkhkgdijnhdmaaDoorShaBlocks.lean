/- sha.blocks: its iterator, which writes its own variable. -/
import Derived.Test.YtjkhkgdijnhdmaaDoorShaObj
import Derived.Test.YtjkhkgdijnhdmaaDoorSeqW
import Derived.Test.YtjkhkgdijnhdmaaDoorOrders
import Derived.Test.YtjkhkgdijnhdmaaDoorKeep
import Derived.Test.YtjkhkgdijnhdmaaDoorScope
import Derived.LoopIn
namespace Go.Proofs.YtjkhkgdijnhdmaaDoor
open Go.RowKit
attribute [local go_sem] Oper.semAt_some

/-- Where stands what is behind the k-th block: without capacity, where the block stands. -/
def behO (off cap k : Nat) : Nat := if cap - 64 * k = 64 then off + 64 * k else off + 64 * k + 64
/-- The k-th block, and what stands behind it. -/
def blockV (g off len cap k : Nat) : Array Value := #[.slice (some ⟨g, off + 64 * k, none⟩) 64 (cap - 64 * k), .slice (some ⟨g, behO off cap k, none⟩) (len - 64 * k - 64) (cap - 64 * k - 64)]
/-- What the iterator itself does. -/
def AbB (Bb : Nat) (X X' : World) : Prop := X' = X.drew ∨ ∃ v, X' = X.setCell ⟨Bb, 0, none⟩ v

/-- How long the slice in a box is. -/
def lenAt (W : World) (Bb : Nat) : Nat := match W.cell? ⟨Bb, 0, none⟩ with
  | some (.slice _ n _) => n
  | _ => 0
theorem Held.lenAt {W : World} {Bb : Nat} {t : TypeId} {A : Option Addr} {n c : Nat} (h : Held W Bb t #[.slice A n c]) : lenAt W Bb = n := by
  unfold Go.Proofs.YtjkhkgdijnhdmaaDoor.lenAt; rw [h.cell 0]; rfl

set_option maxRecDepth 100000 in
set_option maxHeartbeats 1000000 in
theorem blocks1_in (F : Fence) (n : Nat) (hF : F.fn 54) (hro : F.round = none) (hn : 1 ≤ n) (l Bb g off len cap : Nat) (hcap : len ≤ cap) (hmax : cap ≤ maxLen) (J Jx : Nat → World → Prop)
    (hJ : ∀ s X X', AbB Bb X X' → J s X → J s X')
    (hY : ∀ k X, k < len / 64 → J k X → YieldAt F (n - 1) Tryd.prog l (blockV g off len cap k) X fun e X' =>
      (e = .returned (.bool true) ∧ J (k + 1) X' ∧ X'.heap[Bb]? = X.heap[Bb]?) ∨ (e = .returned (.bool false) ∧ Jx (k + 1) X'))
    (W : World) (hc : Held W Bb 27 #[.slice (some ⟨g, off, none⟩) len cap]) (h0 : J 0 W) :
    CallsIn F n Tryd.prog 54 #[.func (.yield l) #[] #[], .pointer (some ⟨Bb, 0, none⟩)] W fun e W' => (∃ v, e = .returned v) ∧
      ((∃ k, k = len / 64 ∧ J k W') ∨ (∃ k, k ≤ len / 64 ∧ Jx k W')) := by
  refine callsIn_of_wp Tryd.func54 rfl hF ?_ hro
  simp only [Tryd.ntmps54, List.size_toArray, List.length_cons, List.length_nil, Nat.reduceAdd, Nat.reduceSub, Array.replicate_succ, Array.replicate_zero, List.push_toArray, List.append_toArray, List.nil_append, List.cons_append]
  gi_wp2
  refine wpIn_scope ?_
  gi_wp2
  refine wpIn_label ?_
  gi_wp2
  gi_loopw [] (fun wr => ∃ k o : Nat, k ≤ len / 64 ∧ (k < len / 64 → o = off + 64 * k) ∧ J k wr ∧ Held wr Bb 27 #[.slice (some ⟨g, o, none⟩) (len - 64 * k) (cap - 64 * k)]) (fun wr => lenAt wr Bb)
  case atStart => exact ⟨0, off, by omega, fun _ => by omega, h0, hc⟩
  case round =>
    obtain ⟨k, o1, hk, ho1, hJk, hX⟩ := hrel
    have hc0 : wr.cell? ⟨Bb, 0, none⟩ = some (.slice (some ⟨g, o1, none⟩) (len - 64 * k) (cap - 64 * k)) := hX.cell 0
    have hfz := hX.frozen 0
    by_cases hlt : k < len / 64
    · obtain rfl := ho1 hlt
      obtain ⟨fn, tmps, assign, body, hy, hR⟩ := hY k wr.drew hlt (hJ _ _ _ (Or.inl rfl) hJk)
      unfold blockV behO at hy
      have hX1 := hX.drew
      obtain ⟨n1, hn1⟩ : ∃ n1, len - 64 * k = n1 := ⟨_, rfl⟩
      obtain ⟨c1, hc1⟩ : ∃ c1, cap - 64 * k = c1 := ⟨_, rfl⟩
      obtain ⟨o1, ho1⟩ : ∃ o1, off + 64 * k = o1 := ⟨_, rfl⟩
      have hm := hX.lenAt
      rw [hn1, hc1, ho1] at hX hX1 hc0 hy
      rw [hn1] at hm
      have hn2 : 64 ≤ n1 := by omega
      have hc2 : n1 ≤ c1 := by omega
      have hc3 : c1 ≤ maxLen := by omega
      have hc4 : 64 ≤ c1 := by omega
      have HN := Lib.hid (And.intro hn1 (And.intro hc1 ho1))
      clear hn1 hc1 ho1
      by_cases hz : c1 = 64
      · subst hz
        obtain rfl : n1 = 64 := by omega
        rw [if_pos rfl, Nat.sub_self] at hy
        gi_wp2
        refine wpIn_region_any (by kernel_rfl) ?_
        change wpAnyIn _ _ _ _ _ _ _ _ _ wr.drew
        simp only [List.size_toArray, List.length_cons, List.length_nil, Nat.reduceAdd]
        refine wpAnyIn_take hro (i := 0) (v := .func (.yield l) #[] #[]) rfl (by kernel_rfl) (by kernel_rfl) (by kernel_rfl) (fun _ _ _ h => h) ⟨Or.inl ⟨by rfl, fun w => ?_⟩, fun _ => rfl⟩ ?_
        · go_simp
          try (intro hh; exfalso; omega)
        refine wpAnyIn_ready (rs := [1, 3]) (by kernel_rfl) (by simp) ?_
        refine AllReadyIn.cons rfl (fun K hK => ?_) (AllReadyIn.cons rfl (fun K hK => ?_) AllReadyIn.nil)
        · go_simp
          refine hK _ _ ?_
          clear hK K
          refine wpAnyIn_take hro (i := 2) (v := .slice (some ⟨g, o1, none⟩) 64 64) rfl (by kernel_rfl) (by kernel_rfl) (by kernel_rfl) (fun _ _ _ h => h) ⟨Or.inl ⟨by rfl, fun w => ?_⟩, fun _ => rfl⟩ ?_
          · go_simp
            try (intro hh; exfalso; omega)
          refine wpAnyIn_ready (rs := [3]) (by kernel_rfl) (by simp) ?_
          refine AllReadyIn.cons rfl (fun K hK => ?_) AllReadyIn.nil
          go_simp
          refine hK _ _ ?_
          clear hK K
          refine wpAnyIn_take hro (i := 4) (v := .slice (some ⟨g, o1, none⟩) 0 0) rfl (by kernel_rfl) (by kernel_rfl) (by kernel_rfl) (fun _ _ _ h => h) ⟨Or.inl ⟨by rfl, fun w => ?_⟩, fun _ => rfl⟩ ?_
          · go_simp
            try (intro hh; exfalso; omega)
          refine wpAnyIn_ready (rs := [5]) (by kernel_rfl) (by simp) ?_
          refine AllReadyIn.cons rfl (fun K hK => ?_) AllReadyIn.nil
          go_simp
          gi_wp2
          refine hR.mono ?_
          rintro e W3 (⟨rfl, hJ3, hk3⟩ | ⟨rfl, hJx3⟩)
          · have hX3 : Held W3 Bb 27 #[.slice (some ⟨g, o1, none⟩) 64 64] := hk3.trans hX1
            have hd0 : W3.cell? ⟨Bb, 0, none⟩ = some (.slice (some ⟨g, o1, none⟩) 64 64) := hX3.cell 0
            have hf0 := hX3.frozen 0
            go_simp
            refine hK _ _ ?_
            clear hK K
            refine wpAnyIn_take hro (i := 6) (v := .bool false) rfl (by kernel_rfl) (by kernel_rfl) (by kernel_rfl) (fun _ _ _ h => h) ⟨Or.inl ⟨by rfl, fun w => ?_⟩, fun _ => rfl⟩ ?_
            · go_simp
              try (intro hh; exfalso; omega)
            refine wpAnyIn_done (by kernel_rfl) ?_ _
            gi_wp2
            go_roundw
            case rel =>
              obtain ⟨h1, h2, h3⟩ := HN.out
              refine ⟨k + 1, o1, by omega, fun hk2 => by omega, hJ _ _ _ (Or.inr ⟨_, rfl⟩) hJ3, ?_⟩
              have := hX3.set 0 (.slice (some ⟨g, o1, none⟩) (0) (0))
              rw [show len - 64 * (k + 1) = 0 by omega, show cap - 64 * (k + 1) = 0 by omega]
              simpa using this
            case measure =>
              have := (hX3.set 0 (.slice (some ⟨g, o1, none⟩) (0) (0))).lenAt
              rw [hm]
              refine Nat.lt_of_le_of_lt (Nat.le_of_eq this) (by omega)
          · go_simp
            refine hK _ _ ?_
            clear hK K
            refine wpAnyIn_take hro (i := 6) (v := .bool true) rfl (by kernel_rfl) (by kernel_rfl) (by kernel_rfl) (fun _ _ _ h => h) ⟨Or.inl ⟨by rfl, fun w => ?_⟩, fun _ => rfl⟩ ?_
            · go_simp
              try (intro hh; exfalso; omega)
            refine wpAnyIn_done (by kernel_rfl) ?_ _
            gi_wp2
            simp only [Exit.noGoto]
            go_end0
            exact ⟨⟨_, rfl⟩, .inr ⟨k + 1, by omega, hJx3⟩⟩
        · go_simp
          refine hK _ _ ?_
          clear hK K
          refine wpAnyIn_take hro (i := 4) (v := .slice (some ⟨g, o1, none⟩) 0 0) rfl (by kernel_rfl) (by kernel_rfl) (by kernel_rfl) (fun _ _ _ h => h) ⟨Or.inl ⟨by rfl, fun w => ?_⟩, fun _ => rfl⟩ ?_
          · go_simp
            try (intro hh; exfalso; omega)
          refine wpAnyIn_ready (rs := [1]) (by kernel_rfl) (by simp) ?_
          refine AllReadyIn.cons rfl (fun K hK => ?_) AllReadyIn.nil
          go_simp
          refine hK _ _ ?_
          clear hK K
          refine wpAnyIn_take hro (i := 2) (v := .slice (some ⟨g, o1, none⟩) 64 64) rfl (by kernel_rfl) (by kernel_rfl) (by kernel_rfl) (fun _ _ _ h => h) ⟨Or.inl ⟨by rfl, fun w => ?_⟩, fun _ => rfl⟩ ?_
          · go_simp
            try (intro hh; exfalso; omega)
          refine wpAnyIn_ready (rs := [5]) (by kernel_rfl) (by simp) ?_
          refine AllReadyIn.cons rfl (fun K hK => ?_) AllReadyIn.nil
          go_simp
          gi_wp2
          refine hR.mono ?_
          rintro e W3 (⟨rfl, hJ3, hk3⟩ | ⟨rfl, hJx3⟩)
          · have hX3 : Held W3 Bb 27 #[.slice (some ⟨g, o1, none⟩) 64 64] := hk3.trans hX1
            have hd0 : W3.cell? ⟨Bb, 0, none⟩ = some (.slice (some ⟨g, o1, none⟩) 64 64) := hX3.cell 0
            have hf0 := hX3.frozen 0
            go_simp
            refine hK _ _ ?_
            clear hK K
            refine wpAnyIn_take hro (i := 6) (v := .bool false) rfl (by kernel_rfl) (by kernel_rfl) (by kernel_rfl) (fun _ _ _ h => h) ⟨Or.inl ⟨by rfl, fun w => ?_⟩, fun _ => rfl⟩ ?_
            · go_simp
              try (intro hh; exfalso; omega)
            refine wpAnyIn_done (by kernel_rfl) ?_ _
            gi_wp2
            go_roundw
            case rel =>
              obtain ⟨h1, h2, h3⟩ := HN.out
              refine ⟨k + 1, o1, by omega, fun hk2 => by omega, hJ _ _ _ (Or.inr ⟨_, rfl⟩) hJ3, ?_⟩
              have := hX3.set 0 (.slice (some ⟨g, o1, none⟩) (0) (0))
              rw [show len - 64 * (k + 1) = 0 by omega, show cap - 64 * (k + 1) = 0 by omega]
              simpa using this
            case measure =>
              have := (hX3.set 0 (.slice (some ⟨g, o1, none⟩) (0) (0))).lenAt
              rw [hm]
              refine Nat.lt_of_le_of_lt (Nat.le_of_eq this) (by omega)
          · go_simp
            refine hK _ _ ?_
            clear hK K
            refine wpAnyIn_take hro (i := 6) (v := .bool true) rfl (by kernel_rfl) (by kernel_rfl) (by kernel_rfl) (fun _ _ _ h => h) ⟨Or.inl ⟨by rfl, fun w => ?_⟩, fun _ => rfl⟩ ?_
            · go_simp
              try (intro hh; exfalso; omega)
            refine wpAnyIn_done (by kernel_rfl) ?_ _
            gi_wp2
            simp only [Exit.noGoto]
            go_end0
            exact ⟨⟨_, rfl⟩, .inr ⟨k + 1, by omega, hJx3⟩⟩
      · rw [if_neg hz] at hy
        gi_wp2
        refine wpIn_region_any (by kernel_rfl) ?_
        change wpAnyIn _ _ _ _ _ _ _ _ _ wr.drew
        simp only [List.size_toArray, List.length_cons, List.length_nil, Nat.reduceAdd]
        refine wpAnyIn_take hro (i := 0) (v := .func (.yield l) #[] #[]) rfl (by kernel_rfl) (by kernel_rfl) (by kernel_rfl) (fun _ _ _ h => h) ⟨Or.inl ⟨by rfl, fun w => ?_⟩, fun _ => rfl⟩ ?_
        · go_simp
          try (intro hh; exfalso; omega)
        refine wpAnyIn_ready (rs := [1, 3]) (by kernel_rfl) (by simp) ?_
        refine AllReadyIn.cons rfl (fun K hK => ?_) (AllReadyIn.cons rfl (fun K hK => ?_) AllReadyIn.nil)
        · go_simp
          refine hK _ _ ?_
          clear hK K
          refine wpAnyIn_take hro (i := 2) (v := .slice (some ⟨g, o1, none⟩) 64 c1) rfl (by kernel_rfl) (by kernel_rfl) (by kernel_rfl) (fun _ _ _ h => h) ⟨Or.inl ⟨by rfl, fun w => ?_⟩, fun _ => rfl⟩ ?_
          · go_simp
            try (intro hh; exfalso; omega)
          refine wpAnyIn_ready (rs := [3]) (by kernel_rfl) (by simp) ?_
          refine AllReadyIn.cons rfl (fun K hK => ?_) AllReadyIn.nil
          go_simp
          refine hK _ _ ?_
          clear hK K
          refine wpAnyIn_take hro (i := 4) (v := .slice (some ⟨g, o1 + 64, none⟩) (n1 - 64) (c1 - 64)) rfl (by kernel_rfl) (by kernel_rfl) (by kernel_rfl) (fun _ _ _ h => h) ⟨Or.inl ⟨by rfl, fun w => ?_⟩, fun _ => rfl⟩ ?_
          · go_simp
            try (intro hh; exfalso; omega)
          refine wpAnyIn_ready (rs := [5]) (by kernel_rfl) (by simp) ?_
          refine AllReadyIn.cons rfl (fun K hK => ?_) AllReadyIn.nil
          go_simp
          gi_wp2
          refine hR.mono ?_
          rintro e W3 (⟨rfl, hJ3, hk3⟩ | ⟨rfl, hJx3⟩)
          · have hX3 : Held W3 Bb 27 #[.slice (some ⟨g, o1, none⟩) n1 c1] := hk3.trans hX1
            have hd0 : W3.cell? ⟨Bb, 0, none⟩ = some (.slice (some ⟨g, o1, none⟩) n1 c1) := hX3.cell 0
            have hf0 := hX3.frozen 0
            go_simp
            refine hK _ _ ?_
            clear hK K
            refine wpAnyIn_take hro (i := 6) (v := .bool false) rfl (by kernel_rfl) (by kernel_rfl) (by kernel_rfl) (fun _ _ _ h => h) ⟨Or.inl ⟨by rfl, fun w => ?_⟩, fun _ => rfl⟩ ?_
            · go_simp
              try (intro hh; exfalso; omega)
            refine wpAnyIn_done (by kernel_rfl) ?_ _
            gi_wp2
            go_roundw
            case rel =>
              obtain ⟨h1, h2, h3⟩ := HN.out
              refine ⟨k + 1, (o1 + 64), by omega, fun hk2 => by omega, hJ _ _ _ (Or.inr ⟨_, rfl⟩) hJ3, ?_⟩
              have := hX3.set 0 (.slice (some ⟨g, (o1 + 64), none⟩) (n1 - 64) (c1 - 64))
              rw [show len - 64 * (k + 1) = n1 - 64 by omega, show cap - 64 * (k + 1) = c1 - 64 by omega]
              simpa using this
            case measure =>
              have := (hX3.set 0 (.slice (some ⟨g, (o1 + 64), none⟩) (n1 - 64) (c1 - 64))).lenAt
              rw [hm]
              refine Nat.lt_of_le_of_lt (Nat.le_of_eq this) (by omega)
          · go_simp
            refine hK _ _ ?_
            clear hK K
            refine wpAnyIn_take hro (i := 6) (v := .bool true) rfl (by kernel_rfl) (by kernel_rfl) (by kernel_rfl) (fun _ _ _ h => h) ⟨Or.inl ⟨by rfl, fun w => ?_⟩, fun _ => rfl⟩ ?_
            · go_simp
              try (intro hh; exfalso; omega)
            refine wpAnyIn_done (by kernel_rfl) ?_ _
            gi_wp2
            simp only [Exit.noGoto]
            go_end0
            exact ⟨⟨_, rfl⟩, .inr ⟨k + 1, by omega, hJx3⟩⟩
        · go_simp
          refine hK _ _ ?_
          clear hK K
          refine wpAnyIn_take hro (i := 4) (v := .slice (some ⟨g, o1 + 64, none⟩) (n1 - 64) (c1 - 64)) rfl (by kernel_rfl) (by kernel_rfl) (by kernel_rfl) (fun _ _ _ h => h) ⟨Or.inl ⟨by rfl, fun w => ?_⟩, fun _ => rfl⟩ ?_
          · go_simp
            try (intro hh; exfalso; omega)
          refine wpAnyIn_ready (rs := [1]) (by kernel_rfl) (by simp) ?_
          refine AllReadyIn.cons rfl (fun K hK => ?_) AllReadyIn.nil
          go_simp
          refine hK _ _ ?_
          clear hK K
          refine wpAnyIn_take hro (i := 2) (v := .slice (some ⟨g, o1, none⟩) 64 c1) rfl (by kernel_rfl) (by kernel_rfl) (by kernel_rfl) (fun _ _ _ h => h) ⟨Or.inl ⟨by rfl, fun w => ?_⟩, fun _ => rfl⟩ ?_
          · go_simp
            try (intro hh; exfalso; omega)
          refine wpAnyIn_ready (rs := [5]) (by kernel_rfl) (by simp) ?_
          refine AllReadyIn.cons rfl (fun K hK => ?_) AllReadyIn.nil
          go_simp
          gi_wp2
          refine hR.mono ?_
          rintro e W3 (⟨rfl, hJ3, hk3⟩ | ⟨rfl, hJx3⟩)
          · have hX3 : Held W3 Bb 27 #[.slice (some ⟨g, o1, none⟩) n1 c1] := hk3.trans hX1
            have hd0 : W3.cell? ⟨Bb, 0, none⟩ = some (.slice (some ⟨g, o1, none⟩) n1 c1) := hX3.cell 0
            have hf0 := hX3.frozen 0
            go_simp
            refine hK _ _ ?_
            clear hK K
            refine wpAnyIn_take hro (i := 6) (v := .bool false) rfl (by kernel_rfl) (by kernel_rfl) (by kernel_rfl) (fun _ _ _ h => h) ⟨Or.inl ⟨by rfl, fun w => ?_⟩, fun _ => rfl⟩ ?_
            · go_simp
              try (intro hh; exfalso; omega)
            refine wpAnyIn_done (by kernel_rfl) ?_ _
            gi_wp2
            go_roundw
            case rel =>
              obtain ⟨h1, h2, h3⟩ := HN.out
              refine ⟨k + 1, (o1 + 64), by omega, fun hk2 => by omega, hJ _ _ _ (Or.inr ⟨_, rfl⟩) hJ3, ?_⟩
              have := hX3.set 0 (.slice (some ⟨g, (o1 + 64), none⟩) (n1 - 64) (c1 - 64))
              rw [show len - 64 * (k + 1) = n1 - 64 by omega, show cap - 64 * (k + 1) = c1 - 64 by omega]
              simpa using this
            case measure =>
              have := (hX3.set 0 (.slice (some ⟨g, (o1 + 64), none⟩) (n1 - 64) (c1 - 64))).lenAt
              rw [hm]
              refine Nat.lt_of_le_of_lt (Nat.le_of_eq this) (by omega)
          · go_simp
            refine hK _ _ ?_
            clear hK K
            refine wpAnyIn_take hro (i := 6) (v := .bool true) rfl (by kernel_rfl) (by kernel_rfl) (by kernel_rfl) (fun _ _ _ h => h) ⟨Or.inl ⟨by rfl, fun w => ?_⟩, fun _ => rfl⟩ ?_
            · go_simp
              try (intro hh; exfalso; omega)
            refine wpAnyIn_done (by kernel_rfl) ?_ _
            gi_wp2
            simp only [Exit.noGoto]
            go_end0
            exact ⟨⟨_, rfl⟩, .inr ⟨k + 1, by omega, hJx3⟩⟩
    · obtain rfl : k = len / 64 := by omega
      have hn0 : ¬ (64 ≤ len - 64 * (len / 64)) := by omega
      gi_wp2
      simp only [Exit.noGoto]
      go_end0
      exact ⟨⟨_, rfl⟩, .inl ⟨_, rfl, hJk⟩⟩

set_option maxRecDepth 100000 in
set_option maxHeartbeats 1000000 in
theorem blocks1_short (F : Fence) (n : Nat) (hF : F.fn 54) (hro : F.round = none) (l Bb : Nat) (A : Option Addr) (len cap : Nat) (hs : len < 64) (J : Nat → World → Prop)
    (W : World) (hc : Held W Bb 27 #[.slice A len cap]) (h0 : J 0 W) :
    CallsIn F n Tryd.prog 54 #[.func (.yield l) #[] #[], .pointer (some ⟨Bb, 0, none⟩)] W fun e W' => (∃ v, e = .returned v) ∧ J 0 W' := by
  refine callsIn_of_wp Tryd.func54 rfl hF ?_ hro
  simp only [Tryd.ntmps54, List.size_toArray, List.length_cons, List.length_nil, Nat.reduceAdd, Nat.reduceSub, Array.replicate_succ, Array.replicate_zero, List.push_toArray, List.append_toArray, List.nil_append, List.cons_append]
  have hc0 : W.cell? ⟨Bb, 0, none⟩ = some (.slice A len cap) := hc.cell 0
  gi_wp2
  refine wpIn_scope ?_
  gi_wp2
  refine wpIn_label ?_
  gi_wp2
  gi_loopw [] (fun wr => wr = W) (fun _ => 0)
  case atStart => rfl
  case round =>
    subst hrel
    have hn0 : ¬ (64 ≤ len) := by omega
    gi_wp2
    simp only [Exit.noGoto]
    go_end0
    exact ⟨⟨_, rfl⟩, h0⟩
/-- What the iterator keeps hold of. -/
def KpB (Bb : Nat) (X X' : World) : Prop := X'.heap[Bb]? = X.heap[Bb]?
theorem blocks_seq (F : Fence) (n : Nat) (hF : F.fn 54) (hro : F.round = none) (hn : 1 ≤ n) (Bb g off : Nat) (A : Option Addr) (len cap : Nat) (hA : 64 ≤ len → A = some ⟨g, off, none⟩) (hcap : len ≤ cap) (hmax : cap ≤ maxLen) (w : World)
    (hc : Held w Bb 27 #[.slice A len cap]) :
    SeqW F n Tryd.prog 54 #[.pointer (some ⟨Bb, 0, none⟩)] (blockV g off len cap) (KpB Bb) (AbB Bb) (fun _ => True) (fun k => k < len / 64) (fun k => k = len / 64) (fun k => k ≤ len / 64) w := by
  intro l J Jx W hW hJ _ _ hY h0
  have hcW := hc.below hW hc.lt
  by_cases hs : len < 64
  · refine (blocks1_short F n hF hro l Bb A len cap hs J W hcW h0).mono ?_
    rintro e W' ⟨hv, hj⟩
    exact ⟨hv, .inl ⟨0, by omega, hj⟩⟩
  · obtain rfl := hA (by omega)
    exact blocks1_in F n hF hro hn l Bb g off len cap hcap hmax J Jx hJ hY W hcW h0
set_option maxHeartbeats 1000000 in
theorem blocks_in (F : Fence) (n : Nat) (hF : F.fn 38) (hro : F.round = none) (A : Option Addr) (len cap : Nat) (w : World) :
    CallsIn F n Tryd.prog 38 #[.slice A len cap] w fun e w' => e = .returned (.func (.func 54) #[] #[.pointer (some ⟨w.heap.size, 0, none⟩)]) ∧ w' = w.alloc (.cells #[.slice A len cap] 27) := by
  refine callsIn_of_wp Tryd.func38 rfl hF ?_ hro
  simp only [Tryd.ntmps38, List.size_toArray, List.length_cons, List.length_nil, Nat.reduceAdd, Nat.reduceSub, Array.replicate_succ, Array.replicate_zero, List.push_toArray, List.append_toArray, List.nil_append, List.cons_append]
  gi_wp2
  go_ret
  exact ⟨rfl, rfl⟩
end Go.Proofs.YtjkhkgdijnhdmaaDoor
