/- model.Of: a book's blocks. -/
import Derived.Test.YtnnknnaimabehaaDoorModMeter
import Derived.Test.YtnnknnaimabehaaDoorModEqW
import Derived.Test.YtnnknnaimabehaaDoorModImg2
namespace Go.Proofs.YtnnknnaimabehaaDoor
open Go.RowKit
attribute [local go_sem] Oper.semAt_some
set_option linter.unusedVariables false
set_option linter.unusedSimpArgs false
set_option maxRecDepth 100000
/-- The first block's values. -/
def firstV (b : Bk) (s0 s1 s2 : ByteArray) : List ValP := [⟨0, 0, s0⟩, ⟨0, 0, s1⟩, ⟨0, 0, s2⟩, lowP b.many, lowP b.seals]
def meterB (b : Bk) (m : Int) : BlkP := ⟨201, P17, meterV b m.toNat⟩
/-- A book's blocks. -/
def ofP (b : Bk) (s0 s1 s2 : ByteArray) (ms : List Int) : List BlkP := ⟨1, P5, firstV b s0 s1 s2⟩ :: ms.map (meterB b)
/-- May there be some? -/
def ofB (b : Bk) (s0 s1 s2 : ByteArray) (ms : List Int) : Prop := ms.length ≤ 64 ∧ (blkW 1 P5 (firstV b s0 s1 s2)).isSome = true ∧ ∀ m ∈ ms, 0 ≤ m ∧ m ≤ 63
theorem vIn (u i : Int) (s : ByteArray) (h1 : 0 ≤ u ∧ u ≤ 18446744073709551615) (h2 : -9223372036854775808 ≤ i ∧ i ≤ 9223372036854775807) : ValIn ⟨u, i, s⟩ := ⟨h1, h2⟩
theorem u0 : (0 : Int) ≤ 0 ∧ (0 : Int) ≤ 18446744073709551615 := by decide
theorem i0' : (-9223372036854775808 : Int) ≤ 0 ∧ (0 : Int) ≤ 9223372036854775807 := by decide
theorem lowP_in (n : Int) : ValIn (lowP n) := vIn _ _ _ (by simp only [IntKind.wrap_u32]; omega) i0'
theorem firstV_in (b : Bk) (s0 s1 s2 : ByteArray) : ∀ v ∈ firstV b s0 s1 s2, ValIn v := by
  intro v hv
  simp only [firstV, List.mem_cons, List.not_mem_nil, or_false] at hv
  rcases hv with rfl | rfl | rfl | rfl | rfl
  · exact vIn _ _ _ u0 i0'
  · exact vIn _ _ _ u0 i0'
  · exact vIn _ _ _ u0 i0'
  · exact lowP_in _
  · exact lowP_in _
theorem meterV_in {K : Int} (b : Bk) (hb : b.ok K) (m : Nat) (hm : m < 64) : ∀ v ∈ meterV b m, ValIn v := by
  intro v hv
  have hs := hb.sumAt m hm
  obtain ⟨⟨q11, q12⟩, ⟨q21, q22⟩, _⟩ := hs
  unfold meterV at hv
  rcases List.mem_append.1 hv with h | h
  · simp only [meterH, List.mem_cons, List.not_mem_nil, or_false] at h
    rcases h with rfl | rfl | rfl | rfl | rfl | rfl | rfl | rfl | rfl
    · exact vIn _ _ _ (by omega) i0'
    · exact vIn _ _ _ u0 (by omega)
    · exact vIn _ _ _ u0 (by omega)
    · exact lowP_in _
    · exact lowP_in _
    · exact lowP_in _
    · exact lowP_in _
    · exact lowP_in _
    · exact vIn _ _ _ (by simp only [IntKind.wrap_u64]; omega) i0'
  · unfold bandsV at h
    obtain ⟨j, hj, rfl⟩ := List.mem_map.1 h
    have ht := hb.totAt m j hm (List.mem_range.1 hj)
    obtain ⟨⟨t1, t2⟩, _⟩ := ht
    exact vIn _ _ _ u0 (by omega)
/-- What Of tells. -/
def OfPost (b : Bk) (s0 s1 s2 : ByteArray) (ms : List Int) (w : World) (e : Ending) (w' : World) : Prop :=
  (ofB b s0 s1 s2 ms → ∃ A c, e = .returned (.tuple #[.slice A (ms.length + 1) c, .int .i64 0]) ∧ BkI w' w'.heap.size A (ms.length + 1) c (ofP b s0 s1 s2 ms)) ∧ (¬ ofB b s0 s1 s2 ms → e = .returned (.tuple #[.slice none 0 0, .int .i64 260])) ∧ Below w.heap.size w w'
/-- The first block, made. -/
def OfI (w : World) (g8 g1 gv : Nat) (vs : List ValP) (W : World) : Prop :=
  Held W g8 37 #[.int .i64 1, .slice (some ⟨g1, 0, none⟩) 5 5, .slice (some ⟨gv, 0, none⟩) 5 5] ∧ PtI W W.heap.size (some ⟨g1, 0, none⟩) 5 5 P5 ∧ VlI W W.heap.size (some ⟨gv, 0, none⟩) 5 5 vs ∧ TyAt W 42 (some ⟨g1, 0, none⟩) ∧ TyAt W 46 (some ⟨gv, 0, none⟩) ∧ Below w.heap.size w W
theorem OfI.made {w W : World} {g8 g1 gv : Nat} {vs : List ValP} (h2 : Held W g8 37 #[.int .i64 0, .slice none 0 0, .slice none 0 0]) (h3 : PtI W W.heap.size (some ⟨g1, 0, none⟩) 5 5 P5) (h4 : VlI W W.heap.size (some ⟨gv, 0, none⟩) 5 5 vs) (h5 : TyAt W 42 (some ⟨g1, 0, none⟩)) (h6 : TyAt W 46 (some ⟨gv, 0, none⟩)) (h7 : Below w.heap.size w W) (h8 : w.heap.size ≤ g8) :
    OfI w g8 g1 gv vs (((W.setCell ⟨g8, 0, none⟩ (.int .i64 1)).setCell ⟨g8, 1, none⟩ (.slice (some ⟨g1, 0, none⟩) 5 5)).setCell ⟨g8, 2, none⟩ (.slice (some ⟨gv, 0, none⟩) 5 5)) := by
  have hg : ∀ b, b ≠ g8 → (((W.setCell ⟨g8, 0, none⟩ (.int .i64 1)).setCell ⟨g8, 1, none⟩ (.slice (some ⟨g1, 0, none⟩) 5 5)).setCell ⟨g8, 2, none⟩ (.slice (some ⟨gv, 0, none⟩) 5 5)).heap[b]? = W.heap[b]? := fun b hb => (Below.heap_setCell _ _ _ b hb).trans ((Below.heap_setCell _ _ _ b hb).trans (Below.heap_setCell _ _ _ b hb))
  have hsz : (((W.setCell ⟨g8, 0, none⟩ (.int .i64 1)).setCell ⟨g8, 1, none⟩ (.slice (some ⟨g1, 0, none⟩) 5 5)).setCell ⟨g8, 2, none⟩ (.slice (some ⟨gv, 0, none⟩) 5 5)).heap.size = W.heap.size := by simp only [World.size_setCell]
  have k1 := h5.ne h2 (by decide)
  have k2 := h6.ne h2 (by decide)
  exact ⟨set3 h2 _ _ _, by rw [hsz]; exact h3.kept (Nat.le_refl _) (fun a e => hg _ (k1 a e)), by rw [hsz]; exact h4.kept (Nat.le_refl _) (fun a e => hg _ (k2 a e)), h5.same (fun a e => hg _ (k1 a e)), h6.same (fun a e => hg _ (k2 a e)), set3_below h7 h8 _ _ _⟩
theorem OfI.up {w W W' : World} {g8 g1 gv : Nat} {vs : List ValP} (h : OfI w g8 g1 gv vs W) (hb : Below W.heap.size W W') : OfI w g8 g1 gv vs W' := by
  obtain ⟨h1, h2, h3, h4, h5, h6⟩ := h
  exact ⟨h1.below hb h1.lt, h2.up hb, h3.up hb, h4.up hb, h5.up hb, h6.trans (hb.mono h6.size)⟩
/-- Blocks in an own row. -/
def RowB (base : Nat) (v : Value) (n : Nat) (bs : List BlkP) (W : World) : Prop := ∃ cs, W.ownsRow base 37 3 v n cs ∧ BkC W W.heap.size cs bs ∧ CellsT W cs
theorem RowB.up {base : Nat} {v : Value} {n : Nat} {bs : List BlkP} {W W' : World} (h : RowB base v n bs W) (hb : Below W.heap.size W W') : RowB base v n bs W' := by
  obtain ⟨cs, h1, h2, h3⟩ := h
  exact ⟨cs, lown_up h1 hb, h2.up hb, h3.same (h3.below hb)⟩
theorem RowB.next {base : Nat} {v : Value} {n : Nat} {bs : List BlkP} {W V : World} (h : RowB base v n bs W) (hb : Below W.heap.size W V) (b : BlkP) {Ap Av : Option Addr} {np cp nv cv : Nat} (hP : PtI V V.heap.size Ap np cp b.pts) (hV : VlI V V.heap.size Av nv cv b.vals) (h1 : TyAt V 42 Ap) (h2 : TyAt V 46 Av) (hv : ∀ v ∈ b.vals, ValIn v) :
    ∃ cs, (V.alloc (.cells #[.int .i64 b.id, .slice Ap np cp, .slice Av nv cv] 37)).ownsRow base 37 3 v n cs ∧
      ∀ v9 V9 n9, V9.ownsRow base 37 3 v9 n9 (cs ++ [.int .i64 b.id, .slice Ap np cp, .slice Av nv cv]) → (V.alloc (.cells #[.int .i64 b.id, .slice Ap np cp, .slice Av nv cv] 37)).grownBy V9 v.ownBlock → RowB base v9 n9 (bs ++ [b]) V9 := by
  obtain ⟨cs, k1, k2, k3⟩ := h.up hb
  have bk : Below V.heap.size V (V.alloc (.cells #[.int .i64 b.id, .slice Ap np cp, .slice Av nv cv] 37)) := (Below.refl _ _).alloc (Nat.le_refl _) _
  refine ⟨cs, k1.alloc _, fun v9 V9 n9 o9 gr => ?_⟩
  have hbc : BkC (V.alloc (.cells #[.int .i64 b.id, .slice Ap np cp, .slice Av nv cv] 37)) (V.alloc (.cells #[.int .i64 b.id, .slice Ap np cp, .slice Av nv cv] 37)).heap.size (cs ++ [.int .i64 b.id, .slice Ap np cp, .slice Av nv cv]) (bs ++ [b]) := (k2.up bk).append ⟨Ap, np, cp, Av, nv, cv, [], rfl, hP.up bk, hV.up bk, hv, rfl⟩
  have hct : CellsT (V.alloc (.cells #[.int .i64 b.id, .slice Ap np cp, .slice Av nv cv] 37)) (cs ++ [.int .i64 b.id, .slice Ap np cp, .slice Av nv cv]) := fun A' n' c' hm => by
    rcases List.mem_append.1 hm with hm | hm
    · exact (k3.same (k3.below bk)) A' n' c' hm
    · simp only [List.mem_cons, List.not_mem_nil, or_false] at hm
      rcases hm with h | h | h
      · cases h
      · injection h with h3 h4 h5; rw [h3]; exact .inl (h1.up bk)
      · injection h with h3 h4 h5; rw [h3]; exact .inr (h2.up bk)
  have hs := hct.grown (k1.alloc _) (by decide) (by decide) gr
  exact ⟨_, o9, hbc.same gr.size hs, hct.same hs⟩
/-- What stands at the loop's head. -/
def OfQ (b : Bk) (s0 s1 s2 : ByteArray) (ms : List Int) (w : World) (base : Nat) (v10 v45 : Value) (W : World) : Prop :=
  ∃ k : Nat, k ≤ ms.length ∧ v45 = .int .i64 k ∧ RowB base v10 (k + 1) (ofP b s0 s1 s2 (ms.take k)) W ∧ (∀ m ∈ ms.take k, 0 ≤ m ∧ m ≤ 63) ∧ Below w.heap.size w W ∧ base ≤ W.heap.size
theorem ofP_snoc (b : Bk) (s0 s1 s2 : ByteArray) (ms : List Int) (k : Nat) (m : Int) (h : ms[k]? = some m) : ofP b s0 s1 s2 (ms.take (k + 1)) = ofP b s0 s1 s2 (ms.take k) ++ [meterB b m] := by
  unfold ofP
  rw [List.take_add_one, h]
  simp
theorem info_block : (Tryd.prog.info? 37).map (fun i => (i.zero, i.size, i.bytes)) = some (some (.agg #[.int .i64 0, .slice none 0 0, .slice none 0 0]), 3, 56) := by kernel_rfl
set_option maxHeartbeats 4000000 in
theorem bof_any (K : Int) (hK : K ≤ 100000) (b : Bk) (hb : b.ok K) (p : Value) (s0 s1 s2 : ByteArray) (A : Option Addr) (n c : Nat) (ms : List Int) (hin : ∀ m ∈ ms, -9223372036854775808 ≤ m ∧ m ≤ 9223372036854775807) (w : World) (hp : BookAt w p b) (hT : PtsT w) (hM : SlI w w.heap.size .i64 A n c ms) :
    Calls Tryd.prog 12 #[p, .agg #[.string s0, .string s1, .string s2], .slice A n c] w (OfPost b s0 s1 s2 ms w) := by
  obtain rfl : n = ms.length := hM.1.symm
  have b1 : Below w.heap.size w (w.alloc (.cells #[.string s0, .string s1, .string s2] 48)) := (Below.refl _ w).alloc (Nat.le_refl _) _
  have h4 : Held (w.alloc (.cells #[.string s0, .string s1, .string s2] 48)) w.heap.size 48 #[.string s0, .string s1, .string s2] := Held.new w _ _
  have HM := Lib.hid hM
  have HIN := Lib.hid hin
  clear hM hin
  by_cases h64 : 64 < ms.length
  · have h64I : (64 : Int) < (ms.length : Int) := by omega
    have HN : Hid (¬ ofB b s0 s1 s2 ms) := Lib.hid (fun h => by have := h.1; omega)
    clear hp hT
    go_in
    go_upto_region 1 with fail
    generalize w.alloc (.cells #[.string s0, .string s1, .string s2] 48) = W1 at b1 h4 ⊢
    go_wp2_with fail
    go_ret2
    exact ⟨fun h => absurd h HN.out, fun _ => rfl, b1⟩
  have h64I : ¬ ((64 : Int) < (ms.length : Int)) := by omega
  have hK0 := Lib.hid hK
  clear hK
  have HP := Lib.hid hp
  have HT := Lib.hid hT
  have HBK := Lib.hid hb
  have HLEN := Lib.hid (fun (V : World) (hV : BookAt V p b) => blen_at hb hV)
  have HSEA := Lib.hid (fun (V : World) (hV : BookAt V p b) => bseals_at hb hV)
  have HDF := Lib.hid (fun (V : World) (hV : Below w.heap.size w V) => defs_any V (hT.up hV))
  have L3 := Lib.hid (fun V => low_any b.many V)
  have L4 := Lib.hid (fun V => low_any b.seals V)
  unfold valV lowP at L3 L4
  clear hp hT hb
  go_in
  go_upto_region 1 with fail
  generalize w.alloc (.cells #[.string s0, .string s1, .string s2] 48) = W1 at b1 h4 ⊢
  go_upto_region 3 with fail
  obtain ⟨wd, hwd⟩ : ∃ Y : World, W1.drew = Y := ⟨_, rfl⟩
  have h4d : Held wd w.heap.size 48 #[.string s0, .string s1, .string s2] := by rw [← hwd]; exact h4.drew
  have bwd : Below w.heap.size w wd := by rw [← hwd]; exact b1.drew
  have h4l := h4d.lt
  clear h4 b1
  have hS := Below.refl wd.heap.size wd
  have bw := bwd
  go_cut [8] from 13 (fun s8 wx => ∃ g8 g1 gv, s8 = .pointer (some ⟨g8, 0, none⟩) ∧ OfI w g8 g1 gv (firstV b s0 s1 s2) wx)
  case first =>
    refine wp_region_held (S := fun Y => Below wd.heap.size wd Y) (by kernel_rfl) ?_
    change wpAnyH _ _ _ _ _ _ _ _ W1.drew
    rw [hwd]
    clear hwd
    refine wpAnyH_take (i := 3) (v := ?v3_1) rfl (by kernel_rfl) (by kernel_rfl) (by kernel_rfl) (fun _ _ _ h => h) (Or.inl ⟨by rfl, ?y3_1⟩) hS ?r3_1
    case y3_1 =>
      rintro W hH
      go_simp
      with_reducible rfl
    simp only [Act.put]
    try simp only [List.getElem_toArray, List.getElem_cons_succ, List.getElem_cons_zero]
    try simp only [List.setIfInBounds_toArray, List.set_cons_succ, List.set_cons_zero]
    refine wpAnyH_take (i := 4) (v := ?v4_2) rfl (by kernel_rfl) (by kernel_rfl) (by kernel_rfl) (fun _ _ _ h => h) (Or.inl ⟨by rfl, ?y4_2⟩) hS ?r4_2
    case y4_2 =>
      rintro W hH
      have hHb : Below wd.heap.size wd W := by first | exact hH | exact hH.1
      have hh4 := h4d.below hHb h4l
      have n0 := hh4.cell 0
      have n1 := hh4.cell 1
      have n2 := hh4.cell 2
      simp only [List.getElem?_toArray, List.getElem?_cons_zero, List.getElem?_cons_succ] at n0 n1 n2
      try (have hd2 := hH.2.cell 0; have hd3 := hH.2.cell 1; simp only [List.getElem?_toArray, List.getElem?_cons_zero, List.getElem?_cons_succ] at hd2 hd3)
      go_simp
      with_reducible rfl
    simp only [Act.put]
    try simp only [List.getElem_toArray, List.getElem_cons_succ, List.getElem_cons_zero]
    try simp only [List.setIfInBounds_toArray, List.set_cons_succ, List.set_cons_zero]
    refine wpAnyH_take (i := 5) (v := ?v5_3) rfl (by kernel_rfl) (by kernel_rfl) (by kernel_rfl) (fun _ _ _ h => h) (Or.inl ⟨by rfl, ?y5_3⟩) hS ?r5_3
    case y5_3 =>
      rintro W hH
      go_simp
      with_reducible rfl
    simp only [Act.put]
    try simp only [List.getElem_toArray, List.getElem_cons_succ, List.getElem_cons_zero]
    try simp only [List.setIfInBounds_toArray, List.set_cons_succ, List.set_cons_zero]
    refine wpAnyH_take (i := 6) (v := ?v6_4) rfl (by kernel_rfl) (by kernel_rfl) (by kernel_rfl) (fun _ _ _ h => h) (Or.inl ⟨by rfl, ?y6_4⟩) hS ?r6_4
    case y6_4 =>
      rintro W hH
      go_simp
      with_reducible rfl
    simp only [Act.put]
    try simp only [List.getElem_toArray, List.getElem_cons_succ, List.getElem_cons_zero]
    try simp only [List.setIfInBounds_toArray, List.set_cons_succ, List.set_cons_zero]
    refine wpAnyH_take (i := 7) (v := ?v7_5) rfl (by kernel_rfl) (by kernel_rfl) (by kernel_rfl) (fun _ _ _ h => h) (Or.inl ⟨by rfl, ?y7_5⟩) hS ?r7_5
    case y7_5 =>
      rintro W hH
      have hHb : Below wd.heap.size wd W := by first | exact hH | exact hH.1
      have hh4 := h4d.below hHb h4l
      have n0 := hh4.cell 0
      have n1 := hh4.cell 1
      have n2 := hh4.cell 2
      simp only [List.getElem?_toArray, List.getElem?_cons_zero, List.getElem?_cons_succ] at n0 n1 n2
      try (have hd2 := hH.2.cell 0; have hd3 := hH.2.cell 1; simp only [List.getElem?_toArray, List.getElem?_cons_zero, List.getElem?_cons_succ] at hd2 hd3)
      go_simp
      with_reducible rfl
    simp only [Act.put]
    try simp only [List.getElem_toArray, List.getElem_cons_succ, List.getElem_cons_zero]
    try simp only [List.setIfInBounds_toArray, List.set_cons_succ, List.set_cons_zero]
    refine wpAnyH_take (i := 8) (v := ?v8_6) rfl (by kernel_rfl) (by kernel_rfl) (by kernel_rfl) (fun _ _ _ h => h) (Or.inl ⟨by rfl, ?y8_6⟩) hS ?r8_6
    case y8_6 =>
      rintro W hH
      go_simp
      with_reducible rfl
    simp only [Act.put]
    try simp only [List.getElem_toArray, List.getElem_cons_succ, List.getElem_cons_zero]
    try simp only [List.setIfInBounds_toArray, List.set_cons_succ, List.set_cons_zero]
    refine wpAnyH_take (i := 9) (v := ?v9_7) rfl (by kernel_rfl) (by kernel_rfl) (by kernel_rfl) (fun _ _ _ h => h) (Or.inl ⟨by rfl, ?y9_7⟩) hS ?r9_7
    case y9_7 =>
      rintro W hH
      go_simp
      with_reducible rfl
    simp only [Act.put]
    try simp only [List.getElem_toArray, List.getElem_cons_succ, List.getElem_cons_zero]
    try simp only [List.setIfInBounds_toArray, List.set_cons_succ, List.set_cons_zero]
    refine wpAnyH_take (i := 10) (v := ?v10_8) rfl (by kernel_rfl) (by kernel_rfl) (by kernel_rfl) (fun _ _ _ h => h) (Or.inl ⟨by rfl, ?y10_8⟩) hS ?r10_8
    case y10_8 =>
      rintro W hH
      have hHb : Below wd.heap.size wd W := by first | exact hH | exact hH.1
      have hh4 := h4d.below hHb h4l
      have n0 := hh4.cell 0
      have n1 := hh4.cell 1
      have n2 := hh4.cell 2
      simp only [List.getElem?_toArray, List.getElem?_cons_zero, List.getElem?_cons_succ] at n0 n1 n2
      try (have hd2 := hH.2.cell 0; have hd3 := hH.2.cell 1; simp only [List.getElem?_toArray, List.getElem?_cons_zero, List.getElem?_cons_succ] at hd2 hd3)
      go_simp
      with_reducible rfl
    simp only [Act.put]
    try simp only [List.getElem_toArray, List.getElem_cons_succ, List.getElem_cons_zero]
    try simp only [List.setIfInBounds_toArray, List.set_cons_succ, List.set_cons_zero]
    refine wpAnyH_take (i := 11) (v := ?v11_9) rfl (by kernel_rfl) (by kernel_rfl) (by kernel_rfl) (fun _ _ _ h => h) (Or.inl ⟨by rfl, ?y11_9⟩) hS ?r11_9
    case y11_9 =>
      rintro W hH
      go_simp
      with_reducible rfl
    simp only [Act.put]
    try simp only [List.getElem_toArray, List.getElem_cons_succ, List.getElem_cons_zero]
    try simp only [List.setIfInBounds_toArray, List.set_cons_succ, List.set_cons_zero]
    refine wpAnyH_take (i := 12) (v := ?v12_10) rfl (by kernel_rfl) (by kernel_rfl) (by kernel_rfl) (fun _ _ _ h => h) (Or.inl ⟨by rfl, ?y12_10⟩) hS ?r12_10
    case y12_10 =>
      rintro W hH
      go_simp
      with_reducible rfl
    simp only [Act.put]
    try simp only [List.getElem_toArray, List.getElem_cons_succ, List.getElem_cons_zero]
    try simp only [List.setIfInBounds_toArray, List.set_cons_succ, List.set_cons_zero]
    refine wpAnyH_take (i := 15) (v := ?v15_11) rfl (by kernel_rfl) (by kernel_rfl) (by kernel_rfl) (fun _ _ _ h => h) (Or.inl ⟨by rfl, ?y15_11⟩) hS ?r15_11
    case y15_11 =>
      rintro W hH
      go_simp
      with_reducible rfl
    simp only [Act.put]
    try simp only [List.getElem_toArray, List.getElem_cons_succ, List.getElem_cons_zero]
    try simp only [List.setIfInBounds_toArray, List.set_cons_succ, List.set_cons_zero]
    refine wpAnyH_ready (rs := [0, 20]) (by kernel_rfl) (by simp) ?_
    refine AllReadyH.cons rfl (fun K' hK' => ?_) (AllReadyH.cons rfl (fun K' hK' => ?_) AllReadyH.nil)
    · skip
      go_simp
      refine (HDF.out wd bw).mono ?_
      rintro e X1 ⟨gd, g1, A2, c2, rfl, hgd, hDd, hPT, hP17, hT17, hTY, bk⟩
      dsimp only
      have bw := bw.trans (bk.mono bw.size)
      have hSn := hS.trans (bk.mono hS.size)
      replace hSn := And.intro hSn hDd
      clear bk
      refine hK'.out _ _ hSn.1 (fun hS => ?_)
      clear hK' K'
      replace hS := hSn
      refine wpAnyH_str (S' := fun Y => Below wd.heap.size wd Y ∧ Held Y gd 34 #[.int .i64 1, .slice (some ⟨g1, 0, none⟩) 5 5, .int .i64 201, .slice A2 17 c2]) (fun _ h => h.1) _ _ _ _ ?_
      refine wpAnyH_take (i := 1) (v := ?v1_12) rfl (by kernel_rfl) (by kernel_rfl) (by kernel_rfl) (fun _ _ _ h => h) (Or.inl ⟨by rfl, ?y1_12⟩) hS ?r1_12
      case y1_12 =>
        rintro W hH
        go_simp
        with_reducible rfl
      simp only [Act.put]
      try simp only [List.getElem_toArray, List.getElem_cons_succ, List.getElem_cons_zero]
      try simp only [List.setIfInBounds_toArray, List.set_cons_succ, List.set_cons_zero]
      refine wpAnyH_take (i := 2) (v := ?v2_13) rfl (by kernel_rfl) (by kernel_rfl) (by kernel_rfl) (fun _ _ _ h => h) (Or.inl ⟨by rfl, ?y2_13⟩) hS ?r2_13
      case y2_13 =>
        rintro W hH
        have hHb : Below wd.heap.size wd W := by first | exact hH | exact hH.1
        have hh4 := h4d.below hHb h4l
        have n0 := hh4.cell 0
        have n1 := hh4.cell 1
        have n2 := hh4.cell 2
        simp only [List.getElem?_toArray, List.getElem?_cons_zero, List.getElem?_cons_succ] at n0 n1 n2
        try (have hd2 := hH.2.cell 0; have hd3 := hH.2.cell 1; simp only [List.getElem?_toArray, List.getElem?_cons_zero, List.getElem?_cons_succ] at hd2 hd3)
        go_simp
        with_reducible rfl
      simp only [Act.put]
      try simp only [List.getElem_toArray, List.getElem_cons_succ, List.getElem_cons_zero]
      try simp only [List.setIfInBounds_toArray, List.set_cons_succ, List.set_cons_zero]
      refine wpAnyH_ready (rs := [13, 20]) (by kernel_rfl) (by simp) ?_
      refine AllReadyH.cons rfl (fun K' hK' => ?_) (AllReadyH.cons rfl (fun K' hK' => ?_) AllReadyH.nil)
      · skip
        go_simp
        refine (HLEN.out X1 (HP.out.up bw)).mono ?_
        rintro e V0 ⟨rfl, hw⟩
        have hw := hw.symm
        subst hw
        dsimp only
        refine hK'.out _ _ hS (fun hS => ?_)
        clear hK' K'
        refine wpAnyH_ready (rs := [14, 20]) (by kernel_rfl) (by simp) ?_
        refine AllReadyH.cons rfl (fun K' hK' => ?_) (AllReadyH.cons rfl (fun K' hK' => ?_) AllReadyH.nil)
        · skip
          go_simp
          refine (L3.out _).mono ?_
          rintro e X2 ⟨rfl, bk⟩
          dsimp only
          have bw := bw.trans (bk.mono bw.size)
          have hPT := hPT.up bk
          have hTY := hTY.up bk
          have hSn := And.intro (hS.1.trans (bk.mono hS.1.size)) (hS.2.below bk hS.2.lt)
          clear bk
          refine hK'.out _ _ hSn (fun hS => ?_)
          clear hK' K'
          refine wpAnyH_ready (rs := [16, 20]) (by kernel_rfl) (by simp) ?_
          refine AllReadyH.cons rfl (fun K' hK' => ?_) (AllReadyH.cons rfl (fun K' hK' => ?_) AllReadyH.nil)
          · skip
            go_simp
            refine (HSEA.out X2 (HP.out.up bw)).mono ?_
            rintro e V0 ⟨rfl, hw⟩
            have hw := hw.symm
            subst hw
            dsimp only
            refine hK'.out _ _ hS (fun hS => ?_)
            clear hK' K'
            refine wpAnyH_ready (rs := [17, 20]) (by kernel_rfl) (by simp) ?_
            refine AllReadyH.cons rfl (fun K' hK' => ?_) (AllReadyH.cons rfl (fun K' hK' => ?_) AllReadyH.nil)
            · skip
              go_simp
              refine (L4.out _).mono ?_
              rintro e X3 ⟨rfl, bk⟩
              dsimp only
              have bw := bw.trans (bk.mono bw.size)
              have hPT := hPT.up bk
              have hTY := hTY.up bk
              have hSn := And.intro (hS.1.trans (bk.mono hS.1.size)) (hS.2.below bk hS.2.lt)
              clear bk
              refine hK'.out _ _ hSn (fun hS => ?_)
              clear hK' K'
              refine wpAnyH_ready (rs := [18, 20]) (by kernel_rfl) (by simp) ?_
              refine AllReadyH.cons rfl (fun K' hK' => ?_) (AllReadyH.cons rfl (fun K' hK' => ?_) AllReadyH.nil)
              · skip
                go_simp
                obtain ⟨X4, hX4⟩ : ∃ Y, X3.alloc (.cells #[.int .u64 0, .int .i64 0, .string s0, .int .u64 0, .int .i64 0, .string s1, .int .u64 0, .int .i64 0, .string s2, .int .u64 (IntKind.u32.wrap b.many), .int .i64 0, .string empS, .int .u64 (IntKind.u32.wrap b.seals), .int .i64 0, .string empS] 46) = Y := ⟨_, rfl⟩
                have bk : Below X3.heap.size X3 X4 := by rw [← hX4]; exact (Below.refl _ _).alloc (Nat.le_refl _) _
                have bw := bw.trans (bk.mono bw.size)
                have hPT := hPT.up bk
                have hTY := hTY.up bk
                have hSn := And.intro (hS.1.trans (bk.mono hS.1.size)) (hS.2.below bk hS.2.lt)
                have hVL : VlI X4 X4.heap.size (some ⟨X3.heap.size, 0, none⟩) 5 5 (firstV b s0 s1 s2) := by rw [← hX4]; exact VlI.of_cells (SlV.of_lit rfl rfl (by omega))
                have hTV : TyAt X4 46 (some ⟨X3.heap.size, 0, none⟩) := by rintro a e; injection e with e; subst e; exact ⟨_, by rw [← hX4]; exact World.alloc_heap_new _ _⟩
                rw [hX4]
                clear bk hX4
                refine hK'.out _ _ hSn (fun hS => ?_)
                clear hK' K'
                refine wpAnyH_take (i := 19) (v := ?v19_14) rfl (by kernel_rfl) (by kernel_rfl) (by kernel_rfl) (fun _ _ _ h => h) (Or.inl ⟨by rfl, ?y19_14⟩) hS ?r19_14
                case y19_14 =>
                  rintro W hH
                  go_simp
                  with_reducible rfl
                simp only [Act.put]
                try simp only [List.getElem_toArray, List.getElem_cons_succ, List.getElem_cons_zero]
                try simp only [List.setIfInBounds_toArray, List.set_cons_succ, List.set_cons_zero]
                refine wpAnyH_ready (rs := [20]) (by kernel_rfl) (by simp) ?_
                refine AllReadyH.cons rfl (fun K' hK' => ?_) AllReadyH.nil
                go_simp
                obtain ⟨X5, hX5⟩ : ∃ Y, X4.alloc (.cells #[.int .i64 0, .slice none 0 0, .slice none 0 0] 37) = Y := ⟨_, rfl⟩
                have bk : Below X4.heap.size X4 X5 := by rw [← hX5]; exact (Below.refl _ _).alloc (Nat.le_refl _) _
                have bw := bw.trans (bk.mono bw.size)
                have hPT := hPT.up bk
                have hTY := hTY.up bk
                have hVL := hVL.up bk
                have hTV := hTV.up bk
                have hSn := And.intro (hS.1.trans (bk.mono hS.1.size)) (hS.2.below bk hS.2.lt)
                have hn8 : Held X5 X4.heap.size 37 #[.int .i64 0, .slice none 0 0, .slice none 0 0] := by rw [← hX5]; exact Held.new _ _ _
                have hg8d : wd.heap.size ≤ X4.heap.size := hS.1.size
                rw [hX5]
                clear bk hX5
                refine hK'.out _ _ hSn (fun hS => ?_)
                clear hK' K'
                refine wpAnyH_ready (rs := [21]) (by kernel_rfl) (by simp) ?_
                refine AllReadyH.cons rfl (fun K' hK' => ?_) AllReadyH.nil
                have hMI := OfI.made hn8 hPT hVL hTY hTV bw (by omega)
                have hcf := hn8.frozen
                have hc0 := hn8.cell 0
                have hc1 := hn8.cell 1
                have hc2 := hn8.cell 2
                have hl8 := hn8.lt
                have hdz : wd.heap.size ≤ X5.heap.size := hS.1.size
                have hgn : gd ≠ X4.heap.size := fun e => absurd (show (34 : Nat) = 37 from by have h1 := hS.2; rw [e] at h1; have := h1.symm.trans hn8; injection this with this; injection this) (by decide)
                have hSn := And.intro (set3_below hS.1 (B := X4.heap.size) (by omega) (.int .i64 1) (.slice (some ⟨g1, 0, none⟩) 5 5) (.slice (some ⟨X3.heap.size, 0, none⟩) 5 5)) (((hS.2.far (p := ⟨X4.heap.size, 0, none⟩) hgn (.int .i64 1)).far (p := ⟨X4.heap.size, 1, none⟩) hgn (.slice (some ⟨g1, 0, none⟩) 5 5)).far (p := ⟨X4.heap.size, 2, none⟩) hgn (.slice (some ⟨X3.heap.size, 0, none⟩) 5 5))
                go_simp
                refine hK'.out _ _ hSn (fun hS => ?_)
                clear hK' K'
                refine wpAnyH_done (by kernel_rfl) ?_ _
                go_wp2_with fail
                go_meet
                case rel => exact ⟨_, _, _, rfl, hMI⟩
              · skip
                go_simp
                obtain ⟨X4, hX4⟩ : ∃ Y, X3.alloc (.cells #[.int .i64 0, .slice none 0 0, .slice none 0 0] 37) = Y := ⟨_, rfl⟩
                have bk : Below X3.heap.size X3 X4 := by rw [← hX4]; exact (Below.refl _ _).alloc (Nat.le_refl _) _
                have bw := bw.trans (bk.mono bw.size)
                have hPT := hPT.up bk
                have hTY := hTY.up bk
                have hSn := And.intro (hS.1.trans (bk.mono hS.1.size)) (hS.2.below bk hS.2.lt)
                have hn8 : Held X4 X3.heap.size 37 #[.int .i64 0, .slice none 0 0, .slice none 0 0] := by rw [← hX4]; exact Held.new _ _ _
                have hg8d : wd.heap.size ≤ X3.heap.size := hS.1.size
                rw [hX4]
                clear bk hX4
                refine hK'.out _ _ hSn (fun hS => ?_)
                clear hK' K'
                refine wpAnyH_ready (rs := [18]) (by kernel_rfl) (by simp) ?_
                refine AllReadyH.cons rfl (fun K' hK' => ?_) AllReadyH.nil
                go_simp
                obtain ⟨X5, hX5⟩ : ∃ Y, X4.alloc (.cells #[.int .u64 0, .int .i64 0, .string s0, .int .u64 0, .int .i64 0, .string s1, .int .u64 0, .int .i64 0, .string s2, .int .u64 (IntKind.u32.wrap b.many), .int .i64 0, .string empS, .int .u64 (IntKind.u32.wrap b.seals), .int .i64 0, .string empS] 46) = Y := ⟨_, rfl⟩
                have bk : Below X4.heap.size X4 X5 := by rw [← hX5]; exact (Below.refl _ _).alloc (Nat.le_refl _) _
                have bw := bw.trans (bk.mono bw.size)
                have hn8 := hn8.below bk hn8.lt
                have hPT := hPT.up bk
                have hTY := hTY.up bk
                have hSn := And.intro (hS.1.trans (bk.mono hS.1.size)) (hS.2.below bk hS.2.lt)
                have hVL : VlI X5 X5.heap.size (some ⟨X4.heap.size, 0, none⟩) 5 5 (firstV b s0 s1 s2) := by rw [← hX5]; exact VlI.of_cells (SlV.of_lit rfl rfl (by omega))
                have hTV : TyAt X5 46 (some ⟨X4.heap.size, 0, none⟩) := by rintro a e; injection e with e; subst e; exact ⟨_, by rw [← hX5]; exact World.alloc_heap_new _ _⟩
                rw [hX5]
                clear bk hX5
                refine hK'.out _ _ hSn (fun hS => ?_)
                clear hK' K'
                refine wpAnyH_take (i := 19) (v := ?v19_15) rfl (by kernel_rfl) (by kernel_rfl) (by kernel_rfl) (fun _ _ _ h => h) (Or.inl ⟨by rfl, ?y19_15⟩) hS ?r19_15
                case y19_15 =>
                  rintro W hH
                  go_simp
                  with_reducible rfl
                simp only [Act.put]
                try simp only [List.getElem_toArray, List.getElem_cons_succ, List.getElem_cons_zero]
                try simp only [List.setIfInBounds_toArray, List.set_cons_succ, List.set_cons_zero]
                refine wpAnyH_ready (rs := [21]) (by kernel_rfl) (by simp) ?_
                refine AllReadyH.cons rfl (fun K' hK' => ?_) AllReadyH.nil
                have hMI := OfI.made hn8 hPT hVL hTY hTV bw (by omega)
                have hcf := hn8.frozen
                have hc0 := hn8.cell 0
                have hc1 := hn8.cell 1
                have hc2 := hn8.cell 2
                have hl8 := hn8.lt
                have hdz : wd.heap.size ≤ X5.heap.size := hS.1.size
                have hgn : gd ≠ X3.heap.size := fun e => absurd (show (34 : Nat) = 37 from by have h1 := hS.2; rw [e] at h1; have := h1.symm.trans hn8; injection this with this; injection this) (by decide)
                have hSn := And.intro (set3_below hS.1 (B := X3.heap.size) (by omega) (.int .i64 1) (.slice (some ⟨g1, 0, none⟩) 5 5) (.slice (some ⟨X4.heap.size, 0, none⟩) 5 5)) (((hS.2.far (p := ⟨X3.heap.size, 0, none⟩) hgn (.int .i64 1)).far (p := ⟨X3.heap.size, 1, none⟩) hgn (.slice (some ⟨g1, 0, none⟩) 5 5)).far (p := ⟨X3.heap.size, 2, none⟩) hgn (.slice (some ⟨X4.heap.size, 0, none⟩) 5 5))
                go_simp
                refine hK'.out _ _ hSn (fun hS => ?_)
                clear hK' K'
                refine wpAnyH_done (by kernel_rfl) ?_ _
                go_wp2_with fail
                go_meet
                case rel => exact ⟨_, _, _, rfl, hMI⟩
            · skip
              go_simp
              obtain ⟨X3, hX3⟩ : ∃ Y, X2.alloc (.cells #[.int .i64 0, .slice none 0 0, .slice none 0 0] 37) = Y := ⟨_, rfl⟩
              have bk : Below X2.heap.size X2 X3 := by rw [← hX3]; exact (Below.refl _ _).alloc (Nat.le_refl _) _
              have bw := bw.trans (bk.mono bw.size)
              have hPT := hPT.up bk
              have hTY := hTY.up bk
              have hSn := And.intro (hS.1.trans (bk.mono hS.1.size)) (hS.2.below bk hS.2.lt)
              have hn8 : Held X3 X2.heap.size 37 #[.int .i64 0, .slice none 0 0, .slice none 0 0] := by rw [← hX3]; exact Held.new _ _ _
              have hg8d : wd.heap.size ≤ X2.heap.size := hS.1.size
              rw [hX3]
              clear bk hX3
              refine hK'.out _ _ hSn (fun hS => ?_)
              clear hK' K'
              refine wpAnyH_ready (rs := [17]) (by kernel_rfl) (by simp) ?_
              refine AllReadyH.cons rfl (fun K' hK' => ?_) AllReadyH.nil
              go_simp
              refine (L4.out _).mono ?_
              rintro e X4 ⟨rfl, bk⟩
              dsimp only
              have bw := bw.trans (bk.mono bw.size)
              have hn8 := hn8.below bk hn8.lt
              have hPT := hPT.up bk
              have hTY := hTY.up bk
              have hSn := And.intro (hS.1.trans (bk.mono hS.1.size)) (hS.2.below bk hS.2.lt)
              clear bk
              refine hK'.out _ _ hSn (fun hS => ?_)
              clear hK' K'
              refine wpAnyH_ready (rs := [18]) (by kernel_rfl) (by simp) ?_
              refine AllReadyH.cons rfl (fun K' hK' => ?_) AllReadyH.nil
              go_simp
              obtain ⟨X5, hX5⟩ : ∃ Y, X4.alloc (.cells #[.int .u64 0, .int .i64 0, .string s0, .int .u64 0, .int .i64 0, .string s1, .int .u64 0, .int .i64 0, .string s2, .int .u64 (IntKind.u32.wrap b.many), .int .i64 0, .string empS, .int .u64 (IntKind.u32.wrap b.seals), .int .i64 0, .string empS] 46) = Y := ⟨_, rfl⟩
              have bk : Below X4.heap.size X4 X5 := by rw [← hX5]; exact (Below.refl _ _).alloc (Nat.le_refl _) _
              have bw := bw.trans (bk.mono bw.size)
              have hn8 := hn8.below bk hn8.lt
              have hPT := hPT.up bk
              have hTY := hTY.up bk
              have hSn := And.intro (hS.1.trans (bk.mono hS.1.size)) (hS.2.below bk hS.2.lt)
              have hVL : VlI X5 X5.heap.size (some ⟨X4.heap.size, 0, none⟩) 5 5 (firstV b s0 s1 s2) := by rw [← hX5]; exact VlI.of_cells (SlV.of_lit rfl rfl (by omega))
              have hTV : TyAt X5 46 (some ⟨X4.heap.size, 0, none⟩) := by rintro a e; injection e with e; subst e; exact ⟨_, by rw [← hX5]; exact World.alloc_heap_new _ _⟩
              rw [hX5]
              clear bk hX5
              refine hK'.out _ _ hSn (fun hS => ?_)
              clear hK' K'
              refine wpAnyH_take (i := 19) (v := ?v19_16) rfl (by kernel_rfl) (by kernel_rfl) (by kernel_rfl) (fun _ _ _ h => h) (Or.inl ⟨by rfl, ?y19_16⟩) hS ?r19_16
              case y19_16 =>
                rintro W hH
                go_simp
                with_reducible rfl
              simp only [Act.put]
              try simp only [List.getElem_toArray, List.getElem_cons_succ, List.getElem_cons_zero]
              try simp only [List.setIfInBounds_toArray, List.set_cons_succ, List.set_cons_zero]
              refine wpAnyH_ready (rs := [21]) (by kernel_rfl) (by simp) ?_
              refine AllReadyH.cons rfl (fun K' hK' => ?_) AllReadyH.nil
              have hMI := OfI.made hn8 hPT hVL hTY hTV bw (by omega)
              have hcf := hn8.frozen
              have hc0 := hn8.cell 0
              have hc1 := hn8.cell 1
              have hc2 := hn8.cell 2
              have hl8 := hn8.lt
              have hdz : wd.heap.size ≤ X5.heap.size := hS.1.size
              have hgn : gd ≠ X2.heap.size := fun e => absurd (show (34 : Nat) = 37 from by have h1 := hS.2; rw [e] at h1; have := h1.symm.trans hn8; injection this with this; injection this) (by decide)
              have hSn := And.intro (set3_below hS.1 (B := X2.heap.size) (by omega) (.int .i64 1) (.slice (some ⟨g1, 0, none⟩) 5 5) (.slice (some ⟨X4.heap.size, 0, none⟩) 5 5)) (((hS.2.far (p := ⟨X2.heap.size, 0, none⟩) hgn (.int .i64 1)).far (p := ⟨X2.heap.size, 1, none⟩) hgn (.slice (some ⟨g1, 0, none⟩) 5 5)).far (p := ⟨X2.heap.size, 2, none⟩) hgn (.slice (some ⟨X4.heap.size, 0, none⟩) 5 5))
              go_simp
              refine hK'.out _ _ hSn (fun hS => ?_)
              clear hK' K'
              refine wpAnyH_done (by kernel_rfl) ?_ _
              go_wp2_with fail
              go_meet
              case rel => exact ⟨_, _, _, rfl, hMI⟩
          · skip
            go_simp
            obtain ⟨X3, hX3⟩ : ∃ Y, X2.alloc (.cells #[.int .i64 0, .slice none 0 0, .slice none 0 0] 37) = Y := ⟨_, rfl⟩
            have bk : Below X2.heap.size X2 X3 := by rw [← hX3]; exact (Below.refl _ _).alloc (Nat.le_refl _) _
            have bw := bw.trans (bk.mono bw.size)
            have hPT := hPT.up bk
            have hTY := hTY.up bk
            have hSn := And.intro (hS.1.trans (bk.mono hS.1.size)) (hS.2.below bk hS.2.lt)
            have hn8 : Held X3 X2.heap.size 37 #[.int .i64 0, .slice none 0 0, .slice none 0 0] := by rw [← hX3]; exact Held.new _ _ _
            have hg8d : wd.heap.size ≤ X2.heap.size := hS.1.size
            rw [hX3]
            clear bk hX3
            refine hK'.out _ _ hSn (fun hS => ?_)
            clear hK' K'
            refine wpAnyH_ready (rs := [16]) (by kernel_rfl) (by simp) ?_
            refine AllReadyH.cons rfl (fun K' hK' => ?_) AllReadyH.nil
            go_simp
            refine (HSEA.out X3 (HP.out.up bw)).mono ?_
            rintro e V0 ⟨rfl, hw⟩
            have hw := hw.symm
            subst hw
            dsimp only
            refine hK'.out _ _ hS (fun hS => ?_)
            clear hK' K'
            refine wpAnyH_ready (rs := [17]) (by kernel_rfl) (by simp) ?_
            refine AllReadyH.cons rfl (fun K' hK' => ?_) AllReadyH.nil
            go_simp
            refine (L4.out _).mono ?_
            rintro e X4 ⟨rfl, bk⟩
            dsimp only
            have bw := bw.trans (bk.mono bw.size)
            have hn8 := hn8.below bk hn8.lt
            have hPT := hPT.up bk
            have hTY := hTY.up bk
            have hSn := And.intro (hS.1.trans (bk.mono hS.1.size)) (hS.2.below bk hS.2.lt)
            clear bk
            refine hK'.out _ _ hSn (fun hS => ?_)
            clear hK' K'
            refine wpAnyH_ready (rs := [18]) (by kernel_rfl) (by simp) ?_
            refine AllReadyH.cons rfl (fun K' hK' => ?_) AllReadyH.nil
            go_simp
            obtain ⟨X5, hX5⟩ : ∃ Y, X4.alloc (.cells #[.int .u64 0, .int .i64 0, .string s0, .int .u64 0, .int .i64 0, .string s1, .int .u64 0, .int .i64 0, .string s2, .int .u64 (IntKind.u32.wrap b.many), .int .i64 0, .string empS, .int .u64 (IntKind.u32.wrap b.seals), .int .i64 0, .string empS] 46) = Y := ⟨_, rfl⟩
            have bk : Below X4.heap.size X4 X5 := by rw [← hX5]; exact (Below.refl _ _).alloc (Nat.le_refl _) _
            have bw := bw.trans (bk.mono bw.size)
            have hn8 := hn8.below bk hn8.lt
            have hPT := hPT.up bk
            have hTY := hTY.up bk
            have hSn := And.intro (hS.1.trans (bk.mono hS.1.size)) (hS.2.below bk hS.2.lt)
            have hVL : VlI X5 X5.heap.size (some ⟨X4.heap.size, 0, none⟩) 5 5 (firstV b s0 s1 s2) := by rw [← hX5]; exact VlI.of_cells (SlV.of_lit rfl rfl (by omega))
            have hTV : TyAt X5 46 (some ⟨X4.heap.size, 0, none⟩) := by rintro a e; injection e with e; subst e; exact ⟨_, by rw [← hX5]; exact World.alloc_heap_new _ _⟩
            rw [hX5]
            clear bk hX5
            refine hK'.out _ _ hSn (fun hS => ?_)
            clear hK' K'
            refine wpAnyH_take (i := 19) (v := ?v19_17) rfl (by kernel_rfl) (by kernel_rfl) (by kernel_rfl) (fun _ _ _ h => h) (Or.inl ⟨by rfl, ?y19_17⟩) hS ?r19_17
            case y19_17 =>
              rintro W hH
              go_simp
              with_reducible rfl
            simp only [Act.put]
            try simp only [List.getElem_toArray, List.getElem_cons_succ, List.getElem_cons_zero]
            try simp only [List.setIfInBounds_toArray, List.set_cons_succ, List.set_cons_zero]
            refine wpAnyH_ready (rs := [21]) (by kernel_rfl) (by simp) ?_
            refine AllReadyH.cons rfl (fun K' hK' => ?_) AllReadyH.nil
            have hMI := OfI.made hn8 hPT hVL hTY hTV bw (by omega)
            have hcf := hn8.frozen
            have hc0 := hn8.cell 0
            have hc1 := hn8.cell 1
            have hc2 := hn8.cell 2
            have hl8 := hn8.lt
            have hdz : wd.heap.size ≤ X5.heap.size := hS.1.size
            have hgn : gd ≠ X2.heap.size := fun e => absurd (show (34 : Nat) = 37 from by have h1 := hS.2; rw [e] at h1; have := h1.symm.trans hn8; injection this with this; injection this) (by decide)
            have hSn := And.intro (set3_below hS.1 (B := X2.heap.size) (by omega) (.int .i64 1) (.slice (some ⟨g1, 0, none⟩) 5 5) (.slice (some ⟨X4.heap.size, 0, none⟩) 5 5)) (((hS.2.far (p := ⟨X2.heap.size, 0, none⟩) hgn (.int .i64 1)).far (p := ⟨X2.heap.size, 1, none⟩) hgn (.slice (some ⟨g1, 0, none⟩) 5 5)).far (p := ⟨X2.heap.size, 2, none⟩) hgn (.slice (some ⟨X4.heap.size, 0, none⟩) 5 5))
            go_simp
            refine hK'.out _ _ hSn (fun hS => ?_)
            clear hK' K'
            refine wpAnyH_done (by kernel_rfl) ?_ _
            go_wp2_with fail
            go_meet
            case rel => exact ⟨_, _, _, rfl, hMI⟩
        · skip
          go_simp
          obtain ⟨X2, hX2⟩ : ∃ Y, X1.alloc (.cells #[.int .i64 0, .slice none 0 0, .slice none 0 0] 37) = Y := ⟨_, rfl⟩
          have bk : Below X1.heap.size X1 X2 := by rw [← hX2]; exact (Below.refl _ _).alloc (Nat.le_refl _) _
          have bw := bw.trans (bk.mono bw.size)
          have hPT := hPT.up bk
          have hTY := hTY.up bk
          have hSn := And.intro (hS.1.trans (bk.mono hS.1.size)) (hS.2.below bk hS.2.lt)
          have hn8 : Held X2 X1.heap.size 37 #[.int .i64 0, .slice none 0 0, .slice none 0 0] := by rw [← hX2]; exact Held.new _ _ _
          have hg8d : wd.heap.size ≤ X1.heap.size := hS.1.size
          rw [hX2]
          clear bk hX2
          refine hK'.out _ _ hSn (fun hS => ?_)
          clear hK' K'
          refine wpAnyH_ready (rs := [14]) (by kernel_rfl) (by simp) ?_
          refine AllReadyH.cons rfl (fun K' hK' => ?_) AllReadyH.nil
          go_simp
          refine (L3.out _).mono ?_
          rintro e X3 ⟨rfl, bk⟩
          dsimp only
          have bw := bw.trans (bk.mono bw.size)
          have hn8 := hn8.below bk hn8.lt
          have hPT := hPT.up bk
          have hTY := hTY.up bk
          have hSn := And.intro (hS.1.trans (bk.mono hS.1.size)) (hS.2.below bk hS.2.lt)
          clear bk
          refine hK'.out _ _ hSn (fun hS => ?_)
          clear hK' K'
          refine wpAnyH_ready (rs := [16]) (by kernel_rfl) (by simp) ?_
          refine AllReadyH.cons rfl (fun K' hK' => ?_) AllReadyH.nil
          go_simp
          refine (HSEA.out X3 (HP.out.up bw)).mono ?_
          rintro e V0 ⟨rfl, hw⟩
          have hw := hw.symm
          subst hw
          dsimp only
          refine hK'.out _ _ hS (fun hS => ?_)
          clear hK' K'
          refine wpAnyH_ready (rs := [17]) (by kernel_rfl) (by simp) ?_
          refine AllReadyH.cons rfl (fun K' hK' => ?_) AllReadyH.nil
          go_simp
          refine (L4.out _).mono ?_
          rintro e X4 ⟨rfl, bk⟩
          dsimp only
          have bw := bw.trans (bk.mono bw.size)
          have hn8 := hn8.below bk hn8.lt
          have hPT := hPT.up bk
          have hTY := hTY.up bk
          have hSn := And.intro (hS.1.trans (bk.mono hS.1.size)) (hS.2.below bk hS.2.lt)
          clear bk
          refine hK'.out _ _ hSn (fun hS => ?_)
          clear hK' K'
          refine wpAnyH_ready (rs := [18]) (by kernel_rfl) (by simp) ?_
          refine AllReadyH.cons rfl (fun K' hK' => ?_) AllReadyH.nil
          go_simp
          obtain ⟨X5, hX5⟩ : ∃ Y, X4.alloc (.cells #[.int .u64 0, .int .i64 0, .string s0, .int .u64 0, .int .i64 0, .string s1, .int .u64 0, .int .i64 0, .string s2, .int .u64 (IntKind.u32.wrap b.many), .int .i64 0, .string empS, .int .u64 (IntKind.u32.wrap b.seals), .int .i64 0, .string empS] 46) = Y := ⟨_, rfl⟩
          have bk : Below X4.heap.size X4 X5 := by rw [← hX5]; exact (Below.refl _ _).alloc (Nat.le_refl _) _
          have bw := bw.trans (bk.mono bw.size)
          have hn8 := hn8.below bk hn8.lt
          have hPT := hPT.up bk
          have hTY := hTY.up bk
          have hSn := And.intro (hS.1.trans (bk.mono hS.1.size)) (hS.2.below bk hS.2.lt)
          have hVL : VlI X5 X5.heap.size (some ⟨X4.heap.size, 0, none⟩) 5 5 (firstV b s0 s1 s2) := by rw [← hX5]; exact VlI.of_cells (SlV.of_lit rfl rfl (by omega))
          have hTV : TyAt X5 46 (some ⟨X4.heap.size, 0, none⟩) := by rintro a e; injection e with e; subst e; exact ⟨_, by rw [← hX5]; exact World.alloc_heap_new _ _⟩
          rw [hX5]
          clear bk hX5
          refine hK'.out _ _ hSn (fun hS => ?_)
          clear hK' K'
          refine wpAnyH_take (i := 19) (v := ?v19_18) rfl (by kernel_rfl) (by kernel_rfl) (by kernel_rfl) (fun _ _ _ h => h) (Or.inl ⟨by rfl, ?y19_18⟩) hS ?r19_18
          case y19_18 =>
            rintro W hH
            go_simp
            with_reducible rfl
          simp only [Act.put]
          try simp only [List.getElem_toArray, List.getElem_cons_succ, List.getElem_cons_zero]
          try simp only [List.setIfInBounds_toArray, List.set_cons_succ, List.set_cons_zero]
          refine wpAnyH_ready (rs := [21]) (by kernel_rfl) (by simp) ?_
          refine AllReadyH.cons rfl (fun K' hK' => ?_) AllReadyH.nil
          have hMI := OfI.made hn8 hPT hVL hTY hTV bw (by omega)
          have hcf := hn8.frozen
          have hc0 := hn8.cell 0
          have hc1 := hn8.cell 1
          have hc2 := hn8.cell 2
          have hl8 := hn8.lt
          have hdz : wd.heap.size ≤ X5.heap.size := hS.1.size
          have hgn : gd ≠ X1.heap.size := fun e => absurd (show (34 : Nat) = 37 from by have h1 := hS.2; rw [e] at h1; have := h1.symm.trans hn8; injection this with this; injection this) (by decide)
          have hSn := And.intro (set3_below hS.1 (B := X1.heap.size) (by omega) (.int .i64 1) (.slice (some ⟨g1, 0, none⟩) 5 5) (.slice (some ⟨X4.heap.size, 0, none⟩) 5 5)) (((hS.2.far (p := ⟨X1.heap.size, 0, none⟩) hgn (.int .i64 1)).far (p := ⟨X1.heap.size, 1, none⟩) hgn (.slice (some ⟨g1, 0, none⟩) 5 5)).far (p := ⟨X1.heap.size, 2, none⟩) hgn (.slice (some ⟨X4.heap.size, 0, none⟩) 5 5))
          go_simp
          refine hK'.out _ _ hSn (fun hS => ?_)
          clear hK' K'
          refine wpAnyH_done (by kernel_rfl) ?_ _
          go_wp2_with fail
          go_meet
          case rel => exact ⟨_, _, _, rfl, hMI⟩
      · skip
        go_simp
        obtain ⟨X2, hX2⟩ : ∃ Y, X1.alloc (.cells #[.int .i64 0, .slice none 0 0, .slice none 0 0] 37) = Y := ⟨_, rfl⟩
        have bk : Below X1.heap.size X1 X2 := by rw [← hX2]; exact (Below.refl _ _).alloc (Nat.le_refl _) _
        have bw := bw.trans (bk.mono bw.size)
        have hPT := hPT.up bk
        have hTY := hTY.up bk
        have hSn := And.intro (hS.1.trans (bk.mono hS.1.size)) (hS.2.below bk hS.2.lt)
        have hn8 : Held X2 X1.heap.size 37 #[.int .i64 0, .slice none 0 0, .slice none 0 0] := by rw [← hX2]; exact Held.new _ _ _
        have hg8d : wd.heap.size ≤ X1.heap.size := hS.1.size
        rw [hX2]
        clear bk hX2
        refine hK'.out _ _ hSn (fun hS => ?_)
        clear hK' K'
        refine wpAnyH_ready (rs := [13]) (by kernel_rfl) (by simp) ?_
        refine AllReadyH.cons rfl (fun K' hK' => ?_) AllReadyH.nil
        go_simp
        refine (HLEN.out X2 (HP.out.up bw)).mono ?_
        rintro e V0 ⟨rfl, hw⟩
        have hw := hw.symm
        subst hw
        dsimp only
        refine hK'.out _ _ hS (fun hS => ?_)
        clear hK' K'
        refine wpAnyH_ready (rs := [14]) (by kernel_rfl) (by simp) ?_
        refine AllReadyH.cons rfl (fun K' hK' => ?_) AllReadyH.nil
        go_simp
        refine (L3.out _).mono ?_
        rintro e X3 ⟨rfl, bk⟩
        dsimp only
        have bw := bw.trans (bk.mono bw.size)
        have hn8 := hn8.below bk hn8.lt
        have hPT := hPT.up bk
        have hTY := hTY.up bk
        have hSn := And.intro (hS.1.trans (bk.mono hS.1.size)) (hS.2.below bk hS.2.lt)
        clear bk
        refine hK'.out _ _ hSn (fun hS => ?_)
        clear hK' K'
        refine wpAnyH_ready (rs := [16]) (by kernel_rfl) (by simp) ?_
        refine AllReadyH.cons rfl (fun K' hK' => ?_) AllReadyH.nil
        go_simp
        refine (HSEA.out X3 (HP.out.up bw)).mono ?_
        rintro e V0 ⟨rfl, hw⟩
        have hw := hw.symm
        subst hw
        dsimp only
        refine hK'.out _ _ hS (fun hS => ?_)
        clear hK' K'
        refine wpAnyH_ready (rs := [17]) (by kernel_rfl) (by simp) ?_
        refine AllReadyH.cons rfl (fun K' hK' => ?_) AllReadyH.nil
        go_simp
        refine (L4.out _).mono ?_
        rintro e X4 ⟨rfl, bk⟩
        dsimp only
        have bw := bw.trans (bk.mono bw.size)
        have hn8 := hn8.below bk hn8.lt
        have hPT := hPT.up bk
        have hTY := hTY.up bk
        have hSn := And.intro (hS.1.trans (bk.mono hS.1.size)) (hS.2.below bk hS.2.lt)
        clear bk
        refine hK'.out _ _ hSn (fun hS => ?_)
        clear hK' K'
        refine wpAnyH_ready (rs := [18]) (by kernel_rfl) (by simp) ?_
        refine AllReadyH.cons rfl (fun K' hK' => ?_) AllReadyH.nil
        go_simp
        obtain ⟨X5, hX5⟩ : ∃ Y, X4.alloc (.cells #[.int .u64 0, .int .i64 0, .string s0, .int .u64 0, .int .i64 0, .string s1, .int .u64 0, .int .i64 0, .string s2, .int .u64 (IntKind.u32.wrap b.many), .int .i64 0, .string empS, .int .u64 (IntKind.u32.wrap b.seals), .int .i64 0, .string empS] 46) = Y := ⟨_, rfl⟩
        have bk : Below X4.heap.size X4 X5 := by rw [← hX5]; exact (Below.refl _ _).alloc (Nat.le_refl _) _
        have bw := bw.trans (bk.mono bw.size)
        have hn8 := hn8.below bk hn8.lt
        have hPT := hPT.up bk
        have hTY := hTY.up bk
        have hSn := And.intro (hS.1.trans (bk.mono hS.1.size)) (hS.2.below bk hS.2.lt)
        have hVL : VlI X5 X5.heap.size (some ⟨X4.heap.size, 0, none⟩) 5 5 (firstV b s0 s1 s2) := by rw [← hX5]; exact VlI.of_cells (SlV.of_lit rfl rfl (by omega))
        have hTV : TyAt X5 46 (some ⟨X4.heap.size, 0, none⟩) := by rintro a e; injection e with e; subst e; exact ⟨_, by rw [← hX5]; exact World.alloc_heap_new _ _⟩
        rw [hX5]
        clear bk hX5
        refine hK'.out _ _ hSn (fun hS => ?_)
        clear hK' K'
        refine wpAnyH_take (i := 19) (v := ?v19_19) rfl (by kernel_rfl) (by kernel_rfl) (by kernel_rfl) (fun _ _ _ h => h) (Or.inl ⟨by rfl, ?y19_19⟩) hS ?r19_19
        case y19_19 =>
          rintro W hH
          go_simp
          with_reducible rfl
        simp only [Act.put]
        try simp only [List.getElem_toArray, List.getElem_cons_succ, List.getElem_cons_zero]
        try simp only [List.setIfInBounds_toArray, List.set_cons_succ, List.set_cons_zero]
        refine wpAnyH_ready (rs := [21]) (by kernel_rfl) (by simp) ?_
        refine AllReadyH.cons rfl (fun K' hK' => ?_) AllReadyH.nil
        have hMI := OfI.made hn8 hPT hVL hTY hTV bw (by omega)
        have hcf := hn8.frozen
        have hc0 := hn8.cell 0
        have hc1 := hn8.cell 1
        have hc2 := hn8.cell 2
        have hl8 := hn8.lt
        have hdz : wd.heap.size ≤ X5.heap.size := hS.1.size
        have hgn : gd ≠ X1.heap.size := fun e => absurd (show (34 : Nat) = 37 from by have h1 := hS.2; rw [e] at h1; have := h1.symm.trans hn8; injection this with this; injection this) (by decide)
        have hSn := And.intro (set3_below hS.1 (B := X1.heap.size) (by omega) (.int .i64 1) (.slice (some ⟨g1, 0, none⟩) 5 5) (.slice (some ⟨X4.heap.size, 0, none⟩) 5 5)) (((hS.2.far (p := ⟨X1.heap.size, 0, none⟩) hgn (.int .i64 1)).far (p := ⟨X1.heap.size, 1, none⟩) hgn (.slice (some ⟨g1, 0, none⟩) 5 5)).far (p := ⟨X1.heap.size, 2, none⟩) hgn (.slice (some ⟨X4.heap.size, 0, none⟩) 5 5))
        go_simp
        refine hK'.out _ _ hSn (fun hS => ?_)
        clear hK' K'
        refine wpAnyH_done (by kernel_rfl) ?_ _
        go_wp2_with fail
        go_meet
        case rel => exact ⟨_, _, _, rfl, hMI⟩
    · skip
      go_simp
      obtain ⟨X1, hX1⟩ : ∃ Y, wd.alloc (.cells #[.int .i64 0, .slice none 0 0, .slice none 0 0] 37) = Y := ⟨_, rfl⟩
      have bk : Below wd.heap.size wd X1 := by rw [← hX1]; exact (Below.refl _ _).alloc (Nat.le_refl _) _
      have bw := bw.trans (bk.mono bw.size)
      have hSn := hS.trans (bk.mono hS.size)
      have hn8 : Held X1 wd.heap.size 37 #[.int .i64 0, .slice none 0 0, .slice none 0 0] := by rw [← hX1]; exact Held.new _ _ _
      have hg8d : wd.heap.size ≤ wd.heap.size := hS.size
      rw [hX1]
      clear bk hX1
      refine hK'.out _ _ hSn (fun hS => ?_)
      clear hK' K'
      refine wpAnyH_ready (rs := [0]) (by kernel_rfl) (by simp) ?_
      refine AllReadyH.cons rfl (fun K' hK' => ?_) AllReadyH.nil
      go_simp
      refine (HDF.out X1 bw).mono ?_
      rintro e X2 ⟨gd, g1, A2, c2, rfl, hgd, hDd, hPT, hP17, hT17, hTY, bk⟩
      dsimp only
      have bw := bw.trans (bk.mono bw.size)
      have hn8 := hn8.below bk hn8.lt
      have hSn := hS.trans (bk.mono hS.size)
      replace hSn := And.intro hSn hDd
      clear bk
      refine hK'.out _ _ hSn.1 (fun hS => ?_)
      clear hK' K'
      replace hS := hSn
      refine wpAnyH_str (S' := fun Y => Below wd.heap.size wd Y ∧ Held Y gd 34 #[.int .i64 1, .slice (some ⟨g1, 0, none⟩) 5 5, .int .i64 201, .slice A2 17 c2]) (fun _ h => h.1) _ _ _ _ ?_
      refine wpAnyH_take (i := 1) (v := ?v1_20) rfl (by kernel_rfl) (by kernel_rfl) (by kernel_rfl) (fun _ _ _ h => h) (Or.inl ⟨by rfl, ?y1_20⟩) hS ?r1_20
      case y1_20 =>
        rintro W hH
        go_simp
        with_reducible rfl
      simp only [Act.put]
      try simp only [List.getElem_toArray, List.getElem_cons_succ, List.getElem_cons_zero]
      try simp only [List.setIfInBounds_toArray, List.set_cons_succ, List.set_cons_zero]
      refine wpAnyH_take (i := 2) (v := ?v2_21) rfl (by kernel_rfl) (by kernel_rfl) (by kernel_rfl) (fun _ _ _ h => h) (Or.inl ⟨by rfl, ?y2_21⟩) hS ?r2_21
      case y2_21 =>
        rintro W hH
        have hHb : Below wd.heap.size wd W := by first | exact hH | exact hH.1
        have hh4 := h4d.below hHb h4l
        have n0 := hh4.cell 0
        have n1 := hh4.cell 1
        have n2 := hh4.cell 2
        simp only [List.getElem?_toArray, List.getElem?_cons_zero, List.getElem?_cons_succ] at n0 n1 n2
        try (have hd2 := hH.2.cell 0; have hd3 := hH.2.cell 1; simp only [List.getElem?_toArray, List.getElem?_cons_zero, List.getElem?_cons_succ] at hd2 hd3)
        go_simp
        with_reducible rfl
      simp only [Act.put]
      try simp only [List.getElem_toArray, List.getElem_cons_succ, List.getElem_cons_zero]
      try simp only [List.setIfInBounds_toArray, List.set_cons_succ, List.set_cons_zero]
      refine wpAnyH_ready (rs := [13]) (by kernel_rfl) (by simp) ?_
      refine AllReadyH.cons rfl (fun K' hK' => ?_) AllReadyH.nil
      go_simp
      refine (HLEN.out X2 (HP.out.up bw)).mono ?_
      rintro e V0 ⟨rfl, hw⟩
      have hw := hw.symm
      subst hw
      dsimp only
      refine hK'.out _ _ hS (fun hS => ?_)
      clear hK' K'
      refine wpAnyH_ready (rs := [14]) (by kernel_rfl) (by simp) ?_
      refine AllReadyH.cons rfl (fun K' hK' => ?_) AllReadyH.nil
      go_simp
      refine (L3.out _).mono ?_
      rintro e X3 ⟨rfl, bk⟩
      dsimp only
      have bw := bw.trans (bk.mono bw.size)
      have hn8 := hn8.below bk hn8.lt
      have hPT := hPT.up bk
      have hTY := hTY.up bk
      have hSn := And.intro (hS.1.trans (bk.mono hS.1.size)) (hS.2.below bk hS.2.lt)
      clear bk
      refine hK'.out _ _ hSn (fun hS => ?_)
      clear hK' K'
      refine wpAnyH_ready (rs := [16]) (by kernel_rfl) (by simp) ?_
      refine AllReadyH.cons rfl (fun K' hK' => ?_) AllReadyH.nil
      go_simp
      refine (HSEA.out X3 (HP.out.up bw)).mono ?_
      rintro e V0 ⟨rfl, hw⟩
      have hw := hw.symm
      subst hw
      dsimp only
      refine hK'.out _ _ hS (fun hS => ?_)
      clear hK' K'
      refine wpAnyH_ready (rs := [17]) (by kernel_rfl) (by simp) ?_
      refine AllReadyH.cons rfl (fun K' hK' => ?_) AllReadyH.nil
      go_simp
      refine (L4.out _).mono ?_
      rintro e X4 ⟨rfl, bk⟩
      dsimp only
      have bw := bw.trans (bk.mono bw.size)
      have hn8 := hn8.below bk hn8.lt
      have hPT := hPT.up bk
      have hTY := hTY.up bk
      have hSn := And.intro (hS.1.trans (bk.mono hS.1.size)) (hS.2.below bk hS.2.lt)
      clear bk
      refine hK'.out _ _ hSn (fun hS => ?_)
      clear hK' K'
      refine wpAnyH_ready (rs := [18]) (by kernel_rfl) (by simp) ?_
      refine AllReadyH.cons rfl (fun K' hK' => ?_) AllReadyH.nil
      go_simp
      obtain ⟨X5, hX5⟩ : ∃ Y, X4.alloc (.cells #[.int .u64 0, .int .i64 0, .string s0, .int .u64 0, .int .i64 0, .string s1, .int .u64 0, .int .i64 0, .string s2, .int .u64 (IntKind.u32.wrap b.many), .int .i64 0, .string empS, .int .u64 (IntKind.u32.wrap b.seals), .int .i64 0, .string empS] 46) = Y := ⟨_, rfl⟩
      have bk : Below X4.heap.size X4 X5 := by rw [← hX5]; exact (Below.refl _ _).alloc (Nat.le_refl _) _
      have bw := bw.trans (bk.mono bw.size)
      have hn8 := hn8.below bk hn8.lt
      have hPT := hPT.up bk
      have hTY := hTY.up bk
      have hSn := And.intro (hS.1.trans (bk.mono hS.1.size)) (hS.2.below bk hS.2.lt)
      have hVL : VlI X5 X5.heap.size (some ⟨X4.heap.size, 0, none⟩) 5 5 (firstV b s0 s1 s2) := by rw [← hX5]; exact VlI.of_cells (SlV.of_lit rfl rfl (by omega))
      have hTV : TyAt X5 46 (some ⟨X4.heap.size, 0, none⟩) := by rintro a e; injection e with e; subst e; exact ⟨_, by rw [← hX5]; exact World.alloc_heap_new _ _⟩
      rw [hX5]
      clear bk hX5
      refine hK'.out _ _ hSn (fun hS => ?_)
      clear hK' K'
      refine wpAnyH_take (i := 19) (v := ?v19_22) rfl (by kernel_rfl) (by kernel_rfl) (by kernel_rfl) (fun _ _ _ h => h) (Or.inl ⟨by rfl, ?y19_22⟩) hS ?r19_22
      case y19_22 =>
        rintro W hH
        go_simp
        with_reducible rfl
      simp only [Act.put]
      try simp only [List.getElem_toArray, List.getElem_cons_succ, List.getElem_cons_zero]
      try simp only [List.setIfInBounds_toArray, List.set_cons_succ, List.set_cons_zero]
      refine wpAnyH_ready (rs := [21]) (by kernel_rfl) (by simp) ?_
      refine AllReadyH.cons rfl (fun K' hK' => ?_) AllReadyH.nil
      have hMI := OfI.made hn8 hPT hVL hTY hTV bw (by omega)
      have hcf := hn8.frozen
      have hc0 := hn8.cell 0
      have hc1 := hn8.cell 1
      have hc2 := hn8.cell 2
      have hl8 := hn8.lt
      have hdz : wd.heap.size ≤ X5.heap.size := hS.1.size
      have hgn : gd ≠ wd.heap.size := fun e => absurd (show (34 : Nat) = 37 from by have h1 := hS.2; rw [e] at h1; have := h1.symm.trans hn8; injection this with this; injection this) (by decide)
      have hSn := And.intro (set3_below hS.1 (B := wd.heap.size) (by omega) (.int .i64 1) (.slice (some ⟨g1, 0, none⟩) 5 5) (.slice (some ⟨X4.heap.size, 0, none⟩) 5 5)) (((hS.2.far (p := ⟨wd.heap.size, 0, none⟩) hgn (.int .i64 1)).far (p := ⟨wd.heap.size, 1, none⟩) hgn (.slice (some ⟨g1, 0, none⟩) 5 5)).far (p := ⟨wd.heap.size, 2, none⟩) hgn (.slice (some ⟨X4.heap.size, 0, none⟩) 5 5))
      go_simp
      refine hK'.out _ _ hSn (fun hS => ?_)
      clear hK' K'
      refine wpAnyH_done (by kernel_rfl) ?_ _
      go_wp2_with fail
      go_meet
      case rel => exact ⟨_, _, _, rfl, hMI⟩
  case rest =>
    obtain ⟨g8, g1, gv, rfl, hI⟩ := hcut
    clear h4d h4l bwd bw hS HLEN HSEA HDF L3 L4
    have HCK := Lib.hid (check_blk 1 (some ⟨g1, 0, none⟩) 5 5 (some ⟨gv, 0, none⟩) 5 5 P5 (firstV b s0 s1 s2) (firstV_in b s0 s1 s2) wc hI.2.1 hI.2.2.1)
    have c0 := hI.1.cell 0
    have c1 := hI.1.cell 1
    have c2 := hI.1.cell 2
    simp only [List.getElem?_toArray, List.getElem?_cons_zero, List.getElem?_cons_succ] at c0 c1 c2
    obtain ⟨ob, hob⟩ : ∃ o, (blkW 1 P5 (firstV b s0 s1 s2)).isSome = o := ⟨_, rfl⟩
    rw [hob] at HCK
    have HOB := Lib.hid hob
    have HI := Lib.hid hI
    clear hob hI
    cases ob with
    | false =>
      have HN : Hid (¬ ofB b s0 s1 s2 ms) := Lib.hid (fun h => by have h1 := h.2.1; rw [HOB.out] at h1; cases h1)
      replace HCK : Hid (Calls Tryd.prog 11 #[.agg #[.int .i64 1, .slice (some ⟨g1, 0, none⟩) 5 5, .slice (some ⟨gv, 0, none⟩) 5 5]] wc fun e w' => e = .returned (.int .i64 260) ∧ Below wc.heap.size wc w') := HCK
      go_wp2_with (go_at_call 11; (with_reducible refine HCK.out.mono ?_); rintro e V2 ⟨rfl, k2⟩)
      go_ret2
      exact ⟨fun h => absurd h HN.out, fun _ => rfl, HI.out.2.2.2.2.2.trans (k2.mono HI.out.2.2.2.2.2.size)⟩
    | true =>
      replace HCK : Hid (Calls Tryd.prog 11 #[.agg #[.int .i64 1, .slice (some ⟨g1, 0, none⟩) 5 5, .slice (some ⟨gv, 0, none⟩) 5 5]] wc fun e w' => e = .returned (.int .i64 0) ∧ Below wc.heap.size wc w') := HCK
      have HBC := Lib.hid (fun (V : World) (h : OfI w g8 g1 gv (firstV b s0 s1 s2) V) => (⟨_, _, _, _, _, _, [], rfl, h.2.1, h.2.2.1, firstV_in b s0 s1 s2, rfl⟩ : BkC V V.heap.size [.int .i64 1, .slice (some ⟨g1, 0, none⟩) 5 5, .slice (some ⟨gv, 0, none⟩) 5 5] [⟨1, P5, firstV b s0 s1 s2⟩]))
      go_upto_region 7 with (go_at_call 11; (with_reducible refine HCK.out.mono ?_); rintro e V2 ⟨rfl, k2⟩)
      have hI2 := HI.out.up k2
      clear HCK c0 c1 c2 k2
      have c0 := hI2.1.cell 0
      have c1 := hI2.1.cell 1
      have c2 := hI2.1.cell 2
      simp only [List.getElem?_toArray, List.getElem?_cons_zero, List.getElem?_cons_succ] at c0 c1 c2
      go_upto_region 8 with fail
      obtain ⟨V3, hV3⟩ : ∃ Y : World, V2.alloc (.cells #[.int .i64 1, .slice (some ⟨g1, 0, none⟩) 5 5, .slice (some ⟨gv, 0, none⟩) 5 5] 37) = Y := ⟨_, rfl⟩
      have k3 : Below V2.heap.size V2 V3 := by rw [← hV3]; exact (Below.refl _ _).alloc (Nat.le_refl _) _
      have hI3 := hI2.up k3
      have hrow3 : V3.ownsRow V2.heap.size 37 3 (.slice (some ⟨V2.heap.size, 0, none⟩) 1 1) 1 [.int .i64 1, .slice (some ⟨g1, 0, none⟩) 5 5, .slice (some ⟨gv, 0, none⟩) 5 5] := by
        rw [← hV3]; exact World.ownsRow_lit V2 #[.int .i64 1, .slice (some ⟨g1, 0, none⟩) 5 5, .slice (some ⟨gv, 0, none⟩) 5 5] 1 (Nat.le_refl _) (by unfold maxLen; omega) rfl
      have hR3 : RowB V2.heap.size (.slice (some ⟨V2.heap.size, 0, none⟩) 1 1) 1 (ofP b s0 s1 s2 []) V3 := ⟨_, hrow3, HBC.out V3 hI3, fun A' n' c' hm => by
        simp only [List.mem_cons, List.not_mem_nil, or_false] at hm
        rcases hm with h | h | h
        · cases h
        · injection h with h1 h2 h3; rw [h1]; exact .inl hI3.2.2.2.1
        · injection h with h1 h2 h3; rw [h1]; exact .inr hI3.2.2.2.2.1⟩
      rw [hV3]
      have H0 := Lib.hid (And.intro hR3 (And.intro hI3.2.2.2.2.2 k3.size))
      have HW2 := Lib.hid hI2.2.2.2.2.2.size
      obtain ⟨i0, hi0, hz0, hz1, hz2⟩ := info_parts info_block
      have hK := HBK.out
      have hKK := hK0.out
      clear hI2 hI3 hrow3 hR3 k3 hV3 c0 c1 c2 HI HBC
      go_wp2_with fail
      go_loopw [10, 45] (OfQ b s0 s1 s2 ms w V2.heap.size) (fun _ v _ => ms.length - (intOf v).toNat)
      case atStart => exact ⟨0, Nat.zero_le _, rfl, H0.out.1, fun m hm => by simp at hm, H0.out.2.1, H0.out.2.2⟩
      case round =>
        obtain ⟨k, hk, rfl, hR, hall, hbl, hbw⟩ := hrel
        by_cases hlt : k < ms.length
        · obtain ⟨m, hm⟩ : ∃ m, ms[k]? = some m := ⟨_, List.getElem?_eq_getElem hlt⟩
          obtain ⟨gM, oM, rfl, hgM, hcM⟩ := (HM.out.up hbl).2.2.2.2 (by omega)
          have hcm := hcM k m hm
          have hmin := HIN.out m (List.mem_of_getElem? hm)
          have hkI : (k : Int) < (ms.length : Int) := by omega
          have HMK := Lib.hid hm
          clear hcM hm
          by_cases hm0 : m < 0
          · have HN : Hid (¬ ofB b s0 s1 s2 ms) := Lib.hid (fun h => by have := h.2.2 m (List.mem_of_getElem? HMK.out); omega)
            have hbf := Lib.hid hbl
            clear hR hall
            go_wp2_with fail
            go_ret2
            exact ⟨fun h => absurd h HN.out, fun _ => rfl, hbf.out⟩
          have hm0b : decide (m < 0) = false := by simpa using hm0
          by_cases hm1 : 63 < m
          · have HN : Hid (¬ ofB b s0 s1 s2 ms) := Lib.hid (fun h => by have := h.2.2 m (List.mem_of_getElem? HMK.out); omega)
            have hbf := Lib.hid hbl
            clear hR hall
            go_wp2_with fail
            go_ret2
            exact ⟨fun h => absurd h HN.out, fun _ => rfl, hbf.out⟩
          have hm1b : decide (63 < m) = false := by simpa using hm1
          obtain ⟨q, rfl⟩ : ∃ q : Nat, m = q := ⟨m.toNat, by omega⟩
          have HMT := Lib.hid (meter_own _ hKK b hK p q (by omega) wr (HP.out.up hbl) (HT.out.up hbl))
          have HVI := Lib.hid (meterV_in b hK q (by omega))
          have HSN := Lib.hid (ofP_snoc b s0 s1 s2 ms k q HMK.out)
          have HALL := Lib.hid hall
          have HR := Lib.hid hR
          have HBL := Lib.hid hbl
          have HBW := Lib.hid hbw
          have HB1 := Lib.hid (show (k + 1) + 1 ≤ maxLen ∧ ((k + 1) + 1) * 56 ≤ 140737488355328 by unfold maxLen; omega)
          clear hR hall hbl hbw
          have hbz := HBL.out.size
          obtain ⟨csx, hrowx, _⟩ := HR.out
          obtain ⟨A0, c0, rfl, _⟩ := SlV.of_own (by omega) hrowx
          clear hrowx
          go_wp2_with (first
            | (go_at_call 30; (with_reducible refine HMT.out.mono ?_); rintro e V4 ⟨Ap, cp, Av, cv, rfl, hPp, hVv, hTp, hTv, k4⟩; (obtain ⟨cs, hrow5, hnext⟩ := HR.out.next k4 (meterB b q) hPp (by simpa [meterB] using hVv) hTp hTv (by simpa [meterB] using HVI.out)); (have hsl : SlV (V4.alloc (.cells #[.int .i64 201, .slice Ap 17 cp, .slice Av 17 cv] 37)) (V4.alloc (.cells #[.int .i64 201, .slice Ap 17 cp, .slice Av 17 cv] 37)).heap.size (some ⟨V4.heap.size, 0, none⟩) 1 1 3 [.int .i64 201, .slice Ap 17 cp, .slice Av 17 cv] := SlV.of_lit rfl rfl (by omega)); (have hbase : V2.heap.size ≤ (V4.alloc (.cells #[.int .i64 201, .slice Ap 17 cp, .slice Av 17 cv] 37)).heap.size := (by have := k4.size; have := HBW.out; simp; omega)); (have HN := Lib.hid (And.intro hrow5 (And.intro hnext (And.intro hbase (HBL.out.trans (k4.mono hbz)))))); (have hrow5 := HN.out.1); clear hPp hVv hTp hTv hnext k4)
            | ((with_reducible refine at_append ?_); refine wpList_append_slv _ rfl (.tmp 55) (.tmp 59) 26 rfl V2.heap.size 37 i0 (.agg #[.int .i64 0, .slice none 0 0, .slice none 0 0]) 3 56 Tryd.underlying26 hi0 hz0 hz1 hz2 (by rfl) (by omega) _ _ _ rfl hrow5 _ (some ⟨V4.heap.size, 0, none⟩) 1 1 [.int .i64 201, .slice Ap 17 cp, .slice Av 17 cv] rfl hsl (by simp [Value.oneCell']) HB1.out.1 HB1.out.2 hbase ?_; intro v9 V9 o9 gr9 _; (have HG := Lib.hid (And.intro gr9 o9)); clear gr9 o9 hsl hrow5))
          go_roundw
          case rel =>
            obtain ⟨gr9, o9⟩ := HG.out
            obtain ⟨hrow5, hnext, hbase, hb4⟩ := HN.out
            refine ⟨k + 1, by omega, by go_num, by rw [HSN.out]; exact hnext _ _ _ o9 gr9, fun y hy => ?_, ?_, Nat.le_trans hbase gr9.size⟩
            · rw [List.take_add_one, HMK.out] at hy
              rcases List.mem_append.1 hy with h | h
              · exact HALL.out y h
              · simp at h; subst h; omega
            · exact (hb4.alloc hb4.size _).grown gr9 (by have := hb4.size; simp; omega) (fun x hx => by have := (hrow5.lt x hx).1; have := HW2.out; omega)
          case measure => simp [intOf]; omega
        · obtain rfl : k = ms.length := by omega
          rw [List.take_length] at hR hall
          have HY : Hid (ofB b s0 s1 s2 ms) := Lib.hid ⟨by omega, HOB.out, hall⟩
          obtain ⟨cs, k1, k2, k3⟩ := hR
          obtain ⟨A9, c9, rfl, hs9⟩ := SlV.of_own (by omega) k1
          have hltI : decide ((ms.length : Int) < (ms.length : Int)) = false := by simp
          have HF := Lib.hid (And.intro (BkI.of_cells hs9 k2) hbl)
          clear hall k1 k2 k3 hs9 hbl
          go_wp2_with fail
          go_ret2
          exact ⟨fun _ => ⟨A9, c9, rfl, HF.out.1⟩, fun h => absurd HY.out h, HF.out.2⟩
end Go.Proofs.YtnnknnaimabehaaDoor
