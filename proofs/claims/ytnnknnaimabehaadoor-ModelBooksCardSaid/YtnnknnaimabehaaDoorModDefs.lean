/- model.Defs, and low. -/
import Derived.Test.YtnnknnaimabehaaDoorModBlock
import Derived.Test.YtnnknnaimabehaaDoorWhole
import Derived.Test.YtnnknnaimabehaaDoorGuards
import Derived.Test.YtnnknnaimabehaaDoorRowUp
import Derived.Test.YtnnknnaimabehaaDoorLedAdd
namespace Go.Proofs.YtnnknnaimabehaaDoor
open Go.RowKit
attribute [local go_sem] Oper.semAt_some
set_option linter.unusedVariables false
set_option linter.unusedSimpArgs false
set_option maxRecDepth 100000
def P5 : List PtP := [⟨3, 8⟩, ⟨3, 8⟩, ⟨3, 8⟩, ⟨1, 2⟩, ⟨1, 2⟩]
def P17 : List PtP := [⟨1, 1⟩, ⟨2, 4⟩, ⟨2, 4⟩, ⟨1, 2⟩, ⟨1, 2⟩, ⟨1, 2⟩, ⟨1, 2⟩, ⟨1, 2⟩, ⟨1, 4⟩, ⟨2, 4⟩, ⟨2, 4⟩, ⟨2, 4⟩, ⟨2, 4⟩, ⟨2, 4⟩, ⟨2, 4⟩, ⟨2, 4⟩, ⟨2, 4⟩]
/-- The table of points. -/
def PtsT (w : World) : Prop := w.rangeAt 0 0 (ptC P17)
theorem PtsT.up {w w' : World} (h : PtsT w) (hb : Below w.heap.size w w') : PtsT w' := fun j v hv => by
  have hc := h j v hv
  exact (hb.cell (p := ⟨0, 0 + j, none⟩) (World.block_lt_of_cell? w _ hc)).trans hc
theorem pts_index (k : Nat) (p : PtP) (h : P17[k]? = some p) (w : World) : (Instr.index 89 (.agg (ptC P17).toArray) (.int .i64 k)).run Tryd.prog w = .ok (.agg #[.int .i64 p.kind, .int .i64 p.words]) w := by
  have hk := (List.getElem?_eq_some_iff.1 h).1
  have : k = 0 ∨ k = 1 ∨ k = 2 ∨ k = 3 ∨ k = 4 ∨ k = 5 ∨ k = 6 ∨ k = 7 ∨ k = 8 ∨ k = 9 ∨ k = 10 ∨ k = 11 ∨ k = 12 ∨ k = 13 ∨ k = 14 ∨ k = 15 ∨ k = 16 := by
    have e : P17.length = 17 := rfl
    omega
  rcases this with rfl | rfl | rfl | rfl | rfl | rfl | rfl | rfl | rfl | rfl | rfl | rfl | rfl | rfl | rfl | rfl | rfl <;> (injection h with h; subst h; change _ = _; kernel_rfl)
theorem info_point : (Tryd.prog.info? 42).map (fun i => (i.zero, i.size, i.bytes)) = some (some (.agg #[.int .i64 0, .int .i64 0]), 2, 16) := by kernel_rfl
theorem ptC_take (k : Nat) (p : PtP) (h : P17[k]? = some p) : ptC (P17.take (k + 1)) = ptC (P17.take k) ++ [.int .i64 p.kind, .int .i64 p.words] := by
  rw [List.take_add_one, h]
  simp [ptC]
/-- What stands at the loop's head. -/
def DefQ (w : World) (g1 g2 g3 base : Nat) (v10 : Value) (W : World) : Prop :=
  ∃ (k : Nat) (v : Value), k ≤ 17 ∧ v10 = .int .i64 k ∧ Held W g1 42 #[.int .i64 3, .int .i64 8] ∧ Held W g2 42 #[.int .i64 1, .int .i64 2] ∧ Held W g3 34 #[.int .i64 201, v] ∧ W.ownsRow base 42 2 v k (ptC (P17.take k)) ∧ Below w.heap.size w W ∧ base ≤ W.heap.size
set_option maxHeartbeats 4000000 in
theorem defs_any (w : World) (hT : PtsT w) : Calls Tryd.prog 13 #[] w fun e w' => ∃ g g1 A2 c2, e = .returned (.slice (some ⟨g, 0, none⟩) 2 2) ∧ w.heap.size ≤ g ∧ Held w' g 34 #[.int .i64 1, .slice (some ⟨g1, 0, none⟩) 5 5, .int .i64 201, .slice A2 17 c2] ∧
    PtI w' w'.heap.size (some ⟨g1, 0, none⟩) 5 5 P5 ∧ PtI w' w'.heap.size A2 17 c2 P17 ∧ TyAt w' 42 A2 ∧ TyAt w' 42 (some ⟨g1, 0, none⟩) ∧ Below w.heap.size w w' := by
  have HIX := Lib.hid pts_index
  go_in
  go_upto_region 4 with fail
  have k1 : Held (((w.alloc (.cells #[.int .i64 3, .int .i64 8] 42)).alloc (.cells #[.int .i64 1, .int .i64 2] 42)).alloc (.cells #[.int .i64 201, .slice none 0 0] 34)) w.heap.size 42 #[.int .i64 3, .int .i64 8] := ((Held.new w _ _).alloc _).alloc _
  have k2 : Held (((w.alloc (.cells #[.int .i64 3, .int .i64 8] 42)).alloc (.cells #[.int .i64 1, .int .i64 2] 42)).alloc (.cells #[.int .i64 201, .slice none 0 0] 34)) (w.heap.size + 1) 42 #[.int .i64 1, .int .i64 2] := (Held.new_at (by simp)).alloc _
  have k3 : Held (((w.alloc (.cells #[.int .i64 3, .int .i64 8] 42)).alloc (.cells #[.int .i64 1, .int .i64 2] 42)).alloc (.cells #[.int .i64 201, .slice none 0 0] 34)) (w.heap.size + 1 + 1) 34 #[.int .i64 201, .slice none 0 0] := Held.new_at (by simp)
  have b3 : Below w.heap.size w (((w.alloc (.cells #[.int .i64 3, .int .i64 8] 42)).alloc (.cells #[.int .i64 1, .int .i64 2] 42)).alloc (.cells #[.int .i64 201, .slice none 0 0] 34)) := (((Below.refl _ w).alloc (Nat.le_refl _) _).alloc (by simp) _).alloc (by simp; omega) _
  generalize (((w.alloc (.cells #[.int .i64 3, .int .i64 8] 42)).alloc (.cells #[.int .i64 1, .int .i64 2] 42)).alloc (.cells #[.int .i64 201, .slice none 0 0] 34)) = W3 at k1 k2 k3 b3 ⊢
  have l3 := k3.lt
  have HT3 : W3.rangeAt 0 0 (ptC P17) := hT.up b3
  have H3 := Lib.hid (And.intro k1 (And.intro k2 (And.intro k3 b3)))
  have IT : Hid ((Tryd.prog.info? 89).map (·.size) = some (ptC P17).length) := Lib.hid (by kernel_rfl)
  clear k1 k2 k3 b3
  obtain ⟨i0, hi0, hz0, hz1, hz2⟩ := info_parts info_point
  go_wp2_with ((with_reducible refine wpList_load_at (dst := some 9) 89 (.global 0) 0 0 (ptC P17) _ (by kernel_rfl) (by kernel_rfl) HT3 Tryd.underlying89 (by kernel_rfl) IT.out ?_); simp only [Act.put, List.setIfInBounds_toArray, List.set_cons_succ, List.set_cons_zero])
  clear HT3
  go_loopw [10] (DefQ w w.heap.size (w.heap.size + 1) (w.heap.size + 1 + 1) W3.heap.size) (fun v _ => 17 - (intOf v).toNat)
  case atStart => exact ⟨0, _, by omega, rfl, H3.out.1, H3.out.2.1, H3.out.2.2.1, World.ownsRow_nil _ _ _ _, H3.out.2.2.2, Nat.le_refl _⟩
  case round =>
    obtain ⟨k, v, hk, rfl, h1, h2, h3, hrow, hbl, hbw⟩ := hrel
    by_cases hlt : k < 17
    · obtain ⟨p, hp⟩ : ∃ p, P17[k]? = some p := ⟨_, List.getElem?_eq_getElem (by show k < 17; omega)⟩
      have HX := fun V => pts_index k p hp V
      have HTK := Lib.hid (ptC_take k p hp)
      have hkI : (k : Int) < 17 := by omega
      obtain ⟨A0, c0, rfl, _⟩ := SlV.of_own (by omega) hrow
      have hc3 := h3.cell 1
      simp only [List.getElem?_toArray, List.getElem?_cons_zero, List.getElem?_cons_succ] at hc3
      have l3r := h3.lt
      have hsl : SlV ((wr.alloc (.cells #[.int .i64 p.kind, .int .i64 p.words] 42)).alloc (.cells #[.int .i64 p.kind, .int .i64 p.words] 42)) ((wr.alloc (.cells #[.int .i64 p.kind, .int .i64 p.words] 42)).alloc (.cells #[.int .i64 p.kind, .int .i64 p.words] 42)).heap.size (some ⟨wr.heap.size + 1, 0, none⟩) 1 1 2 [.int .i64 p.kind, .int .i64 p.words] := by
        have := SlV.of_lit (w := wr.alloc (.cells #[.int .i64 p.kind, .int .i64 p.words] 42)) (T := 42) (cs := #[.int .i64 p.kind, .int .i64 p.words]) (n := 1) (size := 2) (xs := [.int .i64 p.kind, .int .i64 p.words]) rfl rfl (by omega)
        simpa using this
      have HB1 := Lib.hid (show k + 1 ≤ maxLen ∧ (k + 1) * 16 ≤ 140737488355328 by unfold maxLen; omega)
      have hbz := hbl.size
      have hbase : W3.heap.size ≤ ((wr.alloc (.cells #[.int .i64 p.kind, .int .i64 p.words] 42)).alloc (.cells #[.int .i64 p.kind, .int .i64 p.words] 42)).heap.size := by simp; omega
      have hrow2 := (hrow.alloc (.cells #[.int .i64 p.kind, .int .i64 p.words] 42)).alloc (.cells #[.int .i64 p.kind, .int .i64 p.words] 42)
      have HRES := Lib.hid (And.intro ((h1.alloc (.cells #[.int .i64 p.kind, .int .i64 p.words] 42)).alloc (.cells #[.int .i64 p.kind, .int .i64 p.words] 42)) (And.intro ((h2.alloc (.cells #[.int .i64 p.kind, .int .i64 p.words] 42)).alloc (.cells #[.int .i64 p.kind, .int .i64 p.words] 42)) (And.intro ((h3.alloc (.cells #[.int .i64 p.kind, .int .i64 p.words] 42)).alloc (.cells #[.int .i64 p.kind, .int .i64 p.words] 42)) ((hbl.alloc hbz (.cells #[.int .i64 p.kind, .int .i64 p.words] 42)).alloc (by simp; omega) (.cells #[.int .i64 p.kind, .int .i64 p.words] 42)))))
      clear h1 h2 h3 hrow hbl hp
      go_wp2_with ((with_reducible refine at_append ?_); refine wpList_append_slv _ rfl (.tmp 14) (.tmp 16) 32 rfl W3.heap.size 42 i0 (.agg #[.int .i64 0, .int .i64 0]) 2 16 Tryd.underlying32 hi0 hz0 hz1 hz2 (by rfl) (by omega) _ _ _ rfl hrow2 _ (some ⟨wr.heap.size + 1, 0, none⟩) 1 1 [.int .i64 p.kind, .int .i64 p.words] rfl hsl (by simp [Value.oneCell']) HB1.out.1 HB1.out.2 hbase ?_; intro v9 W9 o9 gr9 _; obtain ⟨A9, c9, rfl, _⟩ := SlV.of_own (by omega) o9; (have h19 := HRES.out.1.kept gr9 (fun e' => by have := (hrow2.lt _ e'.symm).1; omega)); (have h29 := HRES.out.2.1.kept gr9 (fun e' => by have := (hrow2.lt _ e'.symm).1; omega)); (have h39 := HRES.out.2.2.1.kept gr9 (fun e' => by have := (hrow2.lt _ e'.symm).1; omega)); (have c39 := h39.cell 1); (have f39 := h39.frozen 1); (have HS9 := Lib.hid (And.intro gr9 (And.intro o9 h39))); clear gr9 o9 h39)
      go_roundw
      case rel =>
        obtain ⟨gr9, o9, h39⟩ := HS9.out
        refine ⟨k + 1, _, by omega, by go_num, h19.far (p := ⟨w.heap.size + 1 + 1, 1, none⟩) (by show w.heap.size ≠ w.heap.size + 1 + 1; omega) _, h29.far (p := ⟨w.heap.size + 1 + 1, 1, none⟩) (by show w.heap.size + 1 ≠ w.heap.size + 1 + 1; omega) _, h39.set 1 _, ?_, ?_, ?_⟩
        · rw [HTK.out]
          exact lown_same o9 fun b hb => Below.heap_setCell _ _ _ b (by have := (o9.lt b hb).1; show b ≠ w.heap.size + 1 + 1; omega)
        · exact (HRES.out.2.2.2.grown gr9 (by simp; omega) (fun b hb => by have := (hrow2.lt b hb).1; omega)).setCell (p := ⟨w.heap.size + 1 + 1, 1, none⟩) (by show w.heap.size ≤ w.heap.size + 1 + 1; omega) _
        · rw [World.size_setCell]; exact Nat.le_trans hbase gr9.size
      case measure => simp [intOf]; omega
    · obtain rfl : k = 17 := by omega
      obtain ⟨A2, c2, rfl, hs2⟩ := SlV.of_own (by omega) hrow
      have l1r := h1.lt
      have l2r := h2.lt
      have l3r := h3.lt
      have c1 := h1.cell 0
      have c1' := h1.cell 1
      have c2' := h2.cell 0
      have c2'' := h2.cell 1
      have c3 := h3.cell 0
      have c3' := h3.cell 1
      simp only [List.getElem?_toArray, List.getElem?_cons_zero, List.getElem?_cons_succ] at c1 c1' c2' c2'' c3 c3'
      have HPT : Hid (∀ V : World, PtI (V.alloc (.cells #[.int .i64 3, .int .i64 8, .int .i64 3, .int .i64 8, .int .i64 3, .int .i64 8, .int .i64 1, .int .i64 2, .int .i64 1, .int .i64 2] 42)) (V.alloc (.cells #[.int .i64 3, .int .i64 8, .int .i64 3, .int .i64 8, .int .i64 3, .int .i64 8, .int .i64 1, .int .i64 2, .int .i64 1, .int .i64 2] 42)).heap.size (some ⟨V.heap.size, 0, none⟩) 5 5 P5) := Lib.hid (fun V => PtI.of_cells (SlV.of_lit rfl rfl (by omega)))
      have hty := TyAt.of_own hrow
      have hP2 : PtI wr wr.heap.size A2 17 c2 P17 := PtI.of_cells (by rw [show P17.take 17 = P17 from rfl] at hs2; exact hs2)
      clear h1 h2 h3 hrow hs2
      go_wp2_with fail
      go_ret
      have ba := (Below.refl wr.heap.size wr).alloc (Nat.le_refl _) (.cells #[.int .i64 3, .int .i64 8, .int .i64 3, .int .i64 8, .int .i64 3, .int .i64 8, .int .i64 1, .int .i64 2, .int .i64 1, .int .i64 2] 42)
      have bb := (Below.refl (wr.alloc (.cells #[.int .i64 3, .int .i64 8, .int .i64 3, .int .i64 8, .int .i64 3, .int .i64 8, .int .i64 1, .int .i64 2, .int .i64 1, .int .i64 2] 42)).heap.size (wr.alloc (.cells #[.int .i64 3, .int .i64 8, .int .i64 3, .int .i64 8, .int .i64 3, .int .i64 8, .int .i64 1, .int .i64 2, .int .i64 1, .int .i64 2] 42))).alloc (Nat.le_refl _) (.cells #[.int .i64 1, .slice (some ⟨wr.heap.size, 0, none⟩) 5 5, .int .i64 201, .slice A2 17 c2] 34)
      have hbz := hbl.size
      refine ⟨_, _, _, _, rfl, ?_, Held.new_at (by simp), (HPT.out wr).up bb, (hP2.up ba).up bb, hty.same (fun a e => (bb.block _ (by have := hP2.lt (by omega) a e; simp; omega)).trans (ba.block _ (hP2.lt (by omega) a e))), (fun a e => by
        injection e with e
        subst e
        exact ⟨_, (bb.block _ (by simp)).trans (World.alloc_heap_new wr _)⟩), (hbl.trans (ba.mono hbz)).trans (bb.mono (by simp; omega))⟩
      omega
def lowP (n : Int) : ValP := ⟨IntKind.u32.wrap n, 0, empS⟩
theorem low_any (n : Int) (w : World) : Calls Tryd.prog 27 #[.int .i64 n] w fun e w' => e = .returned (valV (lowP n)) ∧ Below w.heap.size w w' := by
  have e : IntKind.u64.wrap (IntKind.u32.wrap n) = IntKind.u32.wrap n := by simp only [IntKind.wrap_u64, IntKind.wrap_u32]; omega
  unfold lowP valV
  generalize hq : IntKind.u32.wrap n = q at e
  have HQ := Lib.hid hq
  go_in
  have hH : Held (w.alloc (.cells #[.int .u64 q, .int .i64 0, .string ⟨#[]⟩] 46)) w.heap.size 46 #[.int .u64 q, .int .i64 0, .string ⟨#[]⟩] := Held.new w _ _
  have hbF : Below w.heap.size w (w.alloc (.cells #[.int .u64 q, .int .i64 0, .string ⟨#[]⟩] 46)) := (Below.refl _ w).alloc (Nat.le_refl _) _
  go_wp2_with fail
  exact bodyPost_ret (results_cell_row Tryd.results27 _ _ (w.heap.size) 46 _ (0, 0) _ rfl hH Tryd.underlying46 rfl (by kernel_rfl)) rfl ⟨rfl, hbF⟩
end Go.Proofs.YtnnknnaimabehaaDoor
