/- ledger.words. -/
import Derived.Test.YtjcpgnachkhjaaaDoorLedMet
import Derived.Test.YtjcpgnachkhjaaaDoorShelf
import Derived.Sort.Grow
import Derived.Lib.ItoaLen
namespace Go.Proofs.YtjcpgnachkhjaaaDoor
open Go.RowKit Go.Shelf Go.Sort
attribute [local go_sem] Oper.semAt_some
set_option linter.unusedVariables false
set_option linter.unusedSimpArgs false
set_option maxRecDepth 100000

/-- The library's table of powers. -/
abbrev P10 (w : World) : Prop := Lib.TabIs Tryd.prog w "internal/strconv.uint64pow10" .u64 Lib.pow10Tab
theorem tabIs_up {n : String} {k : IntKind} {zs : List Int} {w w' : World} (h : Lib.TabIs Tryd.prog w n k zs) (hb : Below w.heap.size w w') : Lib.TabIs Tryd.prog w' n k zs := by
  unfold Lib.TabIs World.var? at *
  cases hg : Tryd.prog.globalNamed n with
  | none => rw [hg] at h; simp at h
  | some g =>
    rw [hg] at h
    simp only [Option.bind_some] at h ⊢
    have hlt : g < w.heap.size := by
      rcases Nat.lt_or_ge g w.heap.size with h1 | h1
      · exact h1
      · rw [Array.getElem?_eq_none h1] at h; simp at h
    rw [hb.block g hlt]
    exact h
theorem lown_same {w w' : World} {base : Nat} {e : TypeId} {size n : Nat} {v : Value} {xs : List Value} (h : w.ownsRow base e size v n xs) (hb : ∀ b, v.ownBlock = some b → w'.heap[b]? = w.heap[b]?) : w'.ownsRow base e size v n xs := by
  refine ⟨h.1, ?_⟩
  rcases h.2 with h2 | ⟨g, cap, cur, hv, hg, hh, r⟩
  · exact .inl h2
  · exact .inr ⟨g, cap, cur, hv, hg, (hb g (by rw [hv]; rfl)).trans hh, r⟩
theorem lown_up {w w' : World} {base : Nat} {e : TypeId} {size n : Nat} {v : Value} {xs : List Value} (h : w.ownsRow base e size v n xs) (hb : Below w.heap.size w w') : w'.ownsRow base e size v n xs :=
  lown_same h fun b e => hb.block b (h.lt b e).2
theorem below_grown (w : World) (q : Nat) (os : Array Obj) : Below w.heap.size w (grow (w.drewN q) os) :=
  ⟨rfl, rfl, rfl, by simp [grow], fun i hi => by
    show ((w.drewN q).heap ++ os)[i]? = _
    rw [Array.getElem?_append_left (by show i < w.heap.size; omega)]
    rfl⟩
/-- A string of bytes. -/
def strB (l : List UInt8) : ByteArray := ⟨l.toArray⟩
def nmL (i : Nat) : List UInt8 := match i with
  | 0 => [109, 101, 116, 101, 114]
  | 1 => [101, 110, 101, 114, 103, 121]
  | 2 => [99, 111, 115, 116]
  | 3 => [105, 110, 116, 101, 114, 118, 97, 108, 115]
  | 4 => [102, 108, 97, 103, 103, 101, 100]
  | 5 => [115, 117, 115, 112, 101, 99, 116, 115]
  | 6 => [114, 101, 112, 108, 97, 99, 101, 100]
  | _ => [99, 111, 114, 114, 101, 99, 116, 101, 100]
def nmA : Array Value := #[.string (strB (nmL 0)), .string (strB (nmL 1)), .string (strB (nmL 2)), .string (strB (nmL 3)), .string (strB (nmL 4)), .string (strB (nmL 5)), .string (strB (nmL 6)), .string (strB (nmL 7))]
theorem nmA_at (i : Nat) (h : i < 8) : nmA[i]? = some (.string (strB (nmL i))) := by
  rcases (show i = 0 ∨ i = 1 ∨ i = 2 ∨ i = 3 ∨ i = 4 ∨ i = 5 ∨ i = 6 ∨ i = 7 by omega) with rfl | rfl | rfl | rfl | rfl | rfl | rfl | rfl <;> rfl
theorem nmL_len (i : Nat) : (nmL i).length ≤ 9 := by
  unfold nmL
  split <;> simp
/-- One part of a line; the parts; the line. -/
def partL (i : Nat) (n : Int) : List UInt8 := nmL i ++ [32] ++ Lib.itoa n
def partsN (l : List Int) (k : Nat) : List (List UInt8) := (List.range k).map fun i => partL i (l.getD i 0)
def wordsL (l : List Int) : List UInt8 := Lib.join (partsN l l.length) [32]
theorem partsN_succ (l : List Int) (k : Nat) : partsN l (k + 1) = partsN l k ++ [partL k (l.getD k 0)] := by
  unfold partsN
  rw [List.range_succ, List.map_append]; rfl
theorem partsN_len (l : List Int) (k : Nat) : (partsN l k).length = k := by simp [partsN]
theorem join_len (sep : List UInt8) (B : Nat) (hB : ∀ k : Nat, k ≤ 1 → sep.length ≤ B) : ∀ xs : List (List UInt8), (∀ x ∈ xs, x.length ≤ B) → (Lib.join xs sep).length ≤ 2 * B * xs.length := by
  intro xs h
  cases xs with
  | nil => simp [Lib.join_nil]
  | cons x r =>
    rw [Lib.join_cons, List.length_append]
    have key : ∀ r : List (List UInt8), (∀ x ∈ r, x.length ≤ B) → (Lib.joinTail sep r).length ≤ 2 * B * r.length := by
      intro r
      induction r with
      | nil => intro _; simp [Lib.joinTail]
      | cons y r ih =>
        intro hr
        have h1 := ih (fun z hz => hr z (by simp [hz]))
        have h2 := hr y (by simp)
        have h3 := hB 0 (by omega)
        have e : Lib.joinTail sep (y :: r) = (sep ++ y) ++ Lib.joinTail sep r := by simp [Lib.joinTail]
        rw [e, List.length_append, List.length_append, List.length_cons, Nat.mul_succ]
        omega
    have h1 := key r (fun z hz => h z (by simp [hz]))
    have h2 := h x (by simp)
    rw [List.length_cons, Nat.mul_succ]
    omega
theorem join_le (l : List Int) (hl8 : l.length ≤ 8) (hin : ∀ x ∈ l, -9223372036854775808 ≤ x ∧ x ≤ 9223372036854775807) : (Lib.join ((((partsN l l.length).map strB)).map (·.data.toList)) [32]).length ≤ 140737488355328 := by
  have hcat : ((partsN l l.length).map strB).map (·.data.toList) = partsN l l.length := by
    rw [List.map_map]
    conv => rhs; rw [← List.map_id (partsN l l.length)]
    exact List.map_congr_left fun y _ => by simp [strB]
  rw [hcat]
  have h := join_len [32] 31 (fun _ _ => by simp) (partsN l l.length) (fun x hx => by
    unfold partsN at hx
    obtain ⟨i, hi, rfl⟩ := List.mem_map.1 hx
    have h1 := nmL_len i
    have hm := hin (l.getD i 0) (getD_mem _ _ _ (List.mem_range.1 hi))
    have h2 := Lib.itoa_length_le _ hm.1 hm.2
    unfold partL
    simp only [List.length_append, List.length_cons, List.length_nil]
    omega)
  rw [partsN_len] at h
  omega
def strV (l : List UInt8) : Value := .string (strB l)
theorem info_str : (Tryd.prog.info? 9).map (fun i => (i.zero, i.size, i.bytes)) = some (some (.string ⟨#[]⟩), 1, 16) := by kernel_rfl
/-- What stands at a round's head. -/
def WordR (l : List Int) (w : World) (v i : Value) (wr : World) : Prop := ∃ k : Nat, k ≤ l.length ∧ i = .int .i64 k ∧ Held wr w.heap.size 79 nmA ∧ wr.ownsRow (w.heap.size + 1) 9 1 v k ((partsN l k).map strV) ∧ Below w.heap.size w wr
set_option maxHeartbeats 4000000 in
theorem words_any (l : List Int) (hl8 : l.length ≤ 8) (hl1 : 0 < l.length) (hin : ∀ x ∈ l, -9223372036854775808 ≤ x ∧ x ≤ 9223372036854775807) (A : Option Addr) (n c : Nat) (w : World) (hs : SlI w w.heap.size .i64 A n c l) (hP : P10 w) :
    Calls Tryd.prog 32 #[.slice A n c] w fun e w' => e = .returned (.string (strB (wordsL l))) ∧ Below w.heap.size w w' := by
  obtain ⟨hsl, hnc, hcm, hno, hrd⟩ := hs
  obtain ⟨g, off, rfl, hgl, hcell⟩ := hrd hl1
  subst hsl
  have HC := Lib.hid hcell
  have HP := Lib.hid hP
  have HIN := Lib.hid hin
  have HNA : Hid (#[.string ⟨#[109, 101, 116, 101, 114]⟩, .string ⟨#[101, 110, 101, 114, 103, 121]⟩, .string ⟨#[99, 111, 115, 116]⟩, .string ⟨#[105, 110, 116, 101, 114, 118, 97, 108, 115]⟩, .string ⟨#[102, 108, 97, 103, 103, 101, 100]⟩, .string ⟨#[115, 117, 115, 112, 101, 99, 116, 115]⟩, .string ⟨#[114, 101, 112, 108, 97, 99, 101, 100]⟩, .string ⟨#[99, 111, 114, 114, 101, 99, 116, 101, 100]⟩] = nmA) := Lib.hid rfl
  obtain ⟨i0, hi, hz0, hz1, hz2⟩ := info_parts info_str
  clear hcell hno hrd hP hin
  go_in
  go_wp2_with fail
  rw [HNA.out]
  have h0 : Hid (Held (w.alloc (.cells nmA 79)) w.heap.size 79 nmA ∧ Below w.heap.size w (w.alloc (.cells nmA 79))) := Lib.hid ⟨Held.new w _ _, (Below.refl _ _).alloc (Nat.le_refl _) _⟩
  go_loopw [4, 10] (WordR l w) (fun _ i _ => l.length - (intOf i).toNat)
  case atStart => exact ⟨0, Nat.zero_le _, rfl, h0.out.1, World.ownsRow_nil _ _ _ _, h0.out.2⟩
  case round =>
    rename_i wr _
    obtain ⟨k, hk, rfl, hN, hown, hbl⟩ := hrel
    by_cases hlt : k < l.length
    · obtain ⟨x, hx⟩ : ∃ x, l[k]? = some x := ⟨_, List.getElem?_eq_getElem hlt⟩
      have hgx : l.getD k 0 = x := by rw [List.getD_eq_getElem?_getD, hx]; rfl
      have hcx : wr.cell? ⟨g, off + k, none⟩ = some (.int .i64 x) := (hbl.cell (p := ⟨g, off + k, none⟩) hgl).trans (HC.out k x hx)
      obtain ⟨hx1, hx2⟩ := HIN.out x (List.mem_of_getElem? hx)
      have hk8 : k < 8 := by omega
      have hkI : (k : Int) < (l.length : Int) := by omega
      have hk8I : (k : Int) < 8 := by omega
      have hnm := nmA_at k hk8
      have HPL : Hid (partsN l (k + 1) = partsN l k ++ [nmL k ++ [32] ++ Lib.itoa x]) := Lib.hid (by rw [partsN_succ, hgx]; rfl)
      have hil := Lib.itoa_length_le x hx1 hx2
      have hnl := nmL_len k
      have HF := Lib.hid (fun (V : World) (h : Below w.heap.size w V) => (Tryd.strconv_FormatInt_10 x hx1 hx2 V (tabIs_up HP.out h)))
      obtain ⟨NB, hNB⟩ : ∃ b, strB (nmL k) = b := ⟨_, rfl⟩
      obtain ⟨IB, hIB⟩ : ∃ b : ByteArray, ⟨(Lib.itoa x).toArray⟩ = b := ⟨_, rfl⟩
      have hNs : NB.size ≤ 9 := by rw [← hNB]; simpa [strB, ByteArray.size] using hnl
      have hIs : IB.size ≤ 21 := by rw [← hIB]; simpa [ByteArray.size] using hil
      have HCAT : Hid (strB (nmL k ++ [32] ++ Lib.itoa x) = NB ++ ⟨#[32]⟩ ++ IB) := Lib.hid (by rw [← hNB, ← hIB]; apply ByteArray.ext; simp [strB])
      have hg1 : ¬ 9223372036854775807 < NB.size + 1 := by omega
      have hg2 : ¬ 9223372036854775807 < NB.size + 1 + IB.size := by omega
      rw [hNB] at hnm
      have HF2 : Hid (∀ V : World, Below w.heap.size w V → Calls Tryd.prog 39 #[.int .i64 x, .int .i64 10] V fun e w' => e = .returned (.string IB) ∧ Below V.heap.size V w') := Lib.hid (fun V h => (HF.out V h).mono fun e w' ⟨h1, q, os, h2⟩ => ⟨by rw [h1, hIB], by rw [h2]; exact below_grown _ _ _⟩)
      clear hx hgx hil hnl hNB hIB HF
      go_upto_region 6 with (fail)
      obtain ⟨wd, hwd⟩ : ∃ W : World, wr.drew = W := ⟨_, rfl⟩
      have dN : Held wd w.heap.size 79 nmA := by rw [← hwd]; exact hN
      have dO : wd.ownsRow (w.heap.size + 1) 9 1 u4 k ((partsN l k).map strV) := by rw [← hwd]; exact hown.drew
      have dB : Below w.heap.size w wd := by rw [← hwd]; exact hbl.drew
      have hS : Held wd w.heap.size 79 nmA := dN
      have hnz := dN.lt
      have HB1 := Lib.hid (show k + 1 ≤ maxLen ∧ (k + 1) * 16 ≤ 140737488355328 by unfold maxLen; omega)
      clear hN hown hbl dN
      refine wp_region_held (S := fun W => Held W w.heap.size 79 nmA) (by kernel_rfl) ?_
      change wpAnyH _ _ _ _ _ _ _ _ wr.drew
      rw [hwd]
      clear hwd
      refine wpAnyH_take (i := 0) (v := ?v0_1) rfl (by kernel_rfl) (by kernel_rfl) (by kernel_rfl) (fun _ _ _ h => h) (Or.inl ⟨by rfl, ?y0_1⟩) hS ?r0_1
      case y0_1 =>
        rintro W hH
        go_simp
        with_reducible rfl
      simp only [Act.put]
      try simp only [List.getElem_toArray, List.getElem_cons_zero]
      try simp only [List.setIfInBounds_toArray, List.set_cons_succ, List.set_cons_zero]
      refine wpAnyH_take (i := 1) (v := ?v1_2) rfl (by kernel_rfl) (by kernel_rfl) (by kernel_rfl) (fun _ _ _ h => h) (Or.inl ⟨by rfl, ?y1_2⟩) hS ?r1_2
      case y1_2 =>
        rintro W hH
        go_simp
        with_reducible rfl
      simp only [Act.put]
      try simp only [List.getElem_toArray, List.getElem_cons_succ, List.getElem_cons_zero]
      try simp only [List.setIfInBounds_toArray, List.set_cons_succ, List.set_cons_zero]
      refine wpAnyH_take (i := 2) (v := ?v2_3) rfl (by kernel_rfl) (by kernel_rfl) (by kernel_rfl) (fun _ _ _ h => h) (Or.inl ⟨by rfl, ?y2_3⟩) hS ?r2_3
      case y2_3 =>
        rintro W hH
        go_simp
        with_reducible rfl
      simp only [Act.put]
      try simp only [List.getElem_toArray, List.getElem_cons_succ, List.getElem_cons_zero]
      try simp only [List.setIfInBounds_toArray, List.set_cons_succ, List.set_cons_zero]
      refine wpAnyH_take (i := 3) (v := ?v3_4) rfl (by kernel_rfl) (by kernel_rfl) (by kernel_rfl) (fun _ _ _ h => h) (Or.inl ⟨by rfl, ?y3_4⟩) hS ?r3_4
      case y3_4 =>
        rintro W hH
        have ncell := hH.cell k
        rw [hnm] at ncell
        go_simp
        with_reducible rfl
      simp only [Act.put]
      try simp only [List.getElem_toArray, List.getElem_cons_succ, List.getElem_cons_zero]
      try simp only [List.setIfInBounds_toArray, List.set_cons_succ, List.set_cons_zero]
      refine wpAnyH_take (i := 4) (v := ?v4_5) rfl (by kernel_rfl) (by kernel_rfl) (by kernel_rfl) (fun _ _ _ h => h) (Or.inl ⟨by rfl, ?y4_5⟩) hS ?r4_5
      case y4_5 =>
        rintro W hH
        go_simp
        with_reducible rfl
      simp only [Act.put]
      try simp only [List.getElem_toArray, List.getElem_cons_succ, List.getElem_cons_zero]
      try simp only [List.setIfInBounds_toArray, List.set_cons_succ, List.set_cons_zero]
      refine wpAnyH_take (i := 5) (v := ?v5_6) rfl (by kernel_rfl) (by kernel_rfl) (by kernel_rfl) (fun _ _ _ h => h) (Or.inl ⟨by rfl, ?y5_6⟩) hS ?r5_6
      case y5_6 =>
        rintro W hH
        go_simp
        with_reducible rfl
      simp only [Act.put]
      try simp only [List.getElem_toArray, List.getElem_cons_succ, List.getElem_cons_zero]
      try simp only [List.setIfInBounds_toArray, List.set_cons_succ, List.set_cons_zero]
      refine wpAnyH_ready (rs := [6]) (by kernel_rfl) (by simp) ?_
      refine AllReadyH.cons rfl (fun K' hK' => ?_) AllReadyH.nil
      go_simp
      refine (HF2.out _ dB).mono ?_
      rintro e V6 ⟨rfl, b6⟩
      have hz6 := b6.size
      have o6 := lown_up dO b6
      have B6 := dB.trans (b6.mono dB.size)
      dsimp only
      refine hK'.out _ _ (hS.below b6 hS.lt) (fun hS => ?_)
      clear hK' K'
      refine wpAnyH_take (i := 7) (v := ?v7_7) rfl (by kernel_rfl) (by kernel_rfl) (by kernel_rfl) (fun _ _ _ h => h) (Or.inl ⟨by rfl, ?y7_7⟩) hS ?r7_7
      case y7_7 =>
        rintro W hH
        go_simp
        with_reducible rfl
      simp only [Act.put]
      try simp only [List.getElem_toArray, List.getElem_cons_succ, List.getElem_cons_zero]
      try simp only [List.setIfInBounds_toArray, List.set_cons_succ, List.set_cons_zero]
      refine wpAnyH_ready (rs := [8]) (by kernel_rfl) (by simp) ?_
      refine AllReadyH.cons rfl (fun K' hK' => ?_) AllReadyH.nil
      go_simp
      have o8 := o6.alloc (.cells #[.string (NB ++ ⟨#[32]⟩ ++ IB)] 9)
      have B8 := B6.alloc B6.size (.cells #[.string (NB ++ ⟨#[32]⟩ ++ IB)] 9)
      refine hK'.out _ _ (hS.alloc _) (fun hS => ?_)
      clear hK' K'
      refine wpAnyH_ready (rs := [9]) (by kernel_rfl) (by simp) ?_
      refine AllReadyH.cons rfl (fun K' hK' => ?_) AllReadyH.nil
      refine wp_append_own _ (.tmp 15) (.tmp 23) 56 rfl (w.heap.size + 1) 9 i0 (.string ⟨#[]⟩) 1 16 Tryd.underlying56 hi hz0 hz1 hz2 rfl (by decide) u4 k _ (by kernel_rfl) o8 ⟨V6.heap.size, 0, none⟩ 1 1 [.string (NB ++ ⟨#[32]⟩ ++ IB)] (by kernel_rfl) rfl ?_ ?_ HB1.out.1 HB1.out.2 ?_ ?_
      · intro j u hu
        cases j with
        | zero => simp at hu; subst hu; exact (Held.new V6 _ _).cell 0
        | succ j => simp at hu
      · intro u hu; simp at hu; subst hu; rfl
      · simp; omega
      intro v9 V9 o9 g9 _
      simp only [Act.put]
      refine hK'.out _ _ (hS.kept g9 (fun e => by have := (o8.lt w.heap.size e.symm).1; omega)) (fun hS => ?_)
      clear hK' K'
      refine wpAnyH_take (i := 10) (v := ?v10_8) rfl (by kernel_rfl) (by kernel_rfl) (by kernel_rfl) (fun _ _ _ h => h) (Or.inl ⟨by rfl, ?y10_8⟩) hS ?r10_8
      case y10_8 =>
        rintro W hH
        go_simp
        with_reducible rfl
      simp only [Act.put]
      try simp only [List.getElem_toArray, List.getElem_cons_succ, List.getElem_cons_zero]
      try simp only [List.setIfInBounds_toArray, List.set_cons_succ, List.set_cons_zero]
      refine wpAnyH_done (by kernel_rfl) ?_ _
      go_wp2_with fail
      go_roundw
      case rel => exact ⟨k + 1, by omega, by go_num, hS, by rw [HPL.out, List.map_append]; show World.ownsRow _ _ _ _ _ _ (_ ++ [Value.string (strB _)]); rw [HCAT.out]; exact o9, B8.grown g9 (by simp; omega) (fun j hj => by have := (o8.lt j hj).1; omega)⟩
      case measure => simp [intOf]; omega
    · obtain rfl : k = l.length := by omega
      obtain ⟨g2, c2, rfl, hg2, hgl2, hc2, hcm2⟩ := own_pos hown hl1
      have hrow : ∀ (j : Nat) x, ((partsN l l.length).map strB)[j]? = some x → wr.cell? ⟨g2, 0 + j, none⟩ = some (.string x) := fun j x hx => by
        rw [List.getElem?_map] at hx
        obtain ⟨y, hy, rfl⟩ := Option.map_eq_some_iff.1 hx
        have hj := (List.getElem?_eq_some_iff.1 hy).1
        rw [partsN_len] at hj
        rw [Nat.zero_add, hown.cellAt j (by omega), List.getElem?_map, hy]; rfl
      have hjl : (Lib.join ((((partsN l l.length).map strB)).map (·.data.toList)) [32]).length ≤ 140737488355328 := join_le l hl8 HIN.out
      have hcat : ((partsN l l.length).map strB).map (·.data.toList) = partsN l l.length := by
        rw [List.map_map]
        conv => rhs; rw [← List.map_id (partsN l l.length)]
        exact List.map_congr_left fun y _ => by simp [strB]
      have HJ := Lib.hid (Tryd.strings_Join g2 0 c2 ((partsN l l.length).map strB) ⟨#[32]⟩ wr hrow hgl2 (by rw [List.length_map, partsN_len]; omega) (by rw [List.length_map, partsN_len]; omega) hjl)
      have HJ2 : Hid (Calls Tryd.prog 40 #[.slice (some ⟨g2, 0, none⟩) l.length c2, .string ⟨#[32]⟩] wr fun e w' => e = .returned (.string (strB (wordsL l))) ∧ Below wr.heap.size wr w') := Lib.hid (by
        have := HJ.out
        rw [List.length_map, partsN_len, hcat] at this
        exact this)
      have hbz := hbl.size
      clear hrow hjl hcat HJ
      have hfin : decide ((l.length : Int) < (l.length : Int)) = false := by simp
      go_wp2_with (go_at_call 40; refine HJ2.out.mono ?_; rintro e w' ⟨rfl, hb9⟩)
      go_ret
      exact ⟨rfl, hbl.trans (hb9.mono hbz)⟩
end Go.Proofs.YtjcpgnachkhjaaaDoor
