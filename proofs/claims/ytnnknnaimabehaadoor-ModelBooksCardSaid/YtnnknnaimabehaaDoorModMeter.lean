/- A book, or none; model.meter. -/
import Derived.Test.YtnnknnaimabehaaDoorModDefs
import Derived.Test.YtnnknnaimabehaaDoorModBlock
import Derived.Test.YtnnknnaimabehaaDoorLedAdd
import Derived.Test.YtnnknnaimabehaaDoorStr
import Derived.Test.YtnnknnaimabehaaDoorRefTI
import Derived.Deep.Cut
namespace Go.Proofs.YtnnknnaimabehaaDoor
open Go.RowKit
attribute [local go_sem] Oper.semAt_some
set_option linter.unusedVariables false
set_option linter.unusedSimpArgs false
set_option maxRecDepth 100000
/-- A pointer to a book, or to none, which reads as the empty one. -/
def BookAt (V : World) (p : Value) (b : Bk) : Prop := (p = .pointer none ∧ b = Bk.zero) ∨ ∃ g, p = .pointer (some ⟨g, 0, none⟩) ∧ Held V g 69 b.arr
theorem BookAt.up {V W : World} {p : Value} {b : Bk} (h : BookAt V p b) (hb : Below V.heap.size V W) : BookAt W p b := by
  rcases h with h | ⟨g, h1, h2⟩
  · exact .inl h
  · exact .inr ⟨g, h1, h2.below hb h2.lt⟩
theorem len_none (w : World) : Calls Tryd.prog 28 #[.pointer none] w fun e w' => e = .returned (.int .i64 0) ∧ w' = w := by
  go_in
  go_wp2
  go_ret
  exact ⟨rfl, rfl⟩
theorem seals_none (w : World) : Calls Tryd.prog 29 #[.pointer none] w fun e w' => e = .returned (.int .i64 0) ∧ w' = w := by
  go_in
  go_wp2
  go_ret
  exact ⟨rfl, rfl⟩
theorem is_none (m : Int) (w : World) : Calls Tryd.prog 44 #[.pointer none, .int .i64 m] w fun e w' => e = .returned (.bool false) ∧ w' = w := by
  go_in
  go_wp2
  go_ret
  exact ⟨rfl, rfl⟩
set_option maxHeartbeats 2000000 in
theorem sum_none (m : Int) (w : World) : Calls Tryd.prog 39 #[.pointer none, .int .i64 m] w fun e w' => e = .returned (.agg SumS.zero.arr) ∧ Below w.heap.size w w' := by
  have HQ := Lib.hid (fun v => is_none m v)
  have IZ0 : Hid ((Tryd.prog.info? 65).map (·.size) = some SumS.zero.arr.size) := Lib.hid (by rw [sum_size, SumS.arr_size _ rfl])
  go_in
  go_wp2_with (first
    | ((with_reducible refine wpList_alloc_held (dst := some 4) 65 SumS.zero.arr (by kernel_rfl) alloc_sum ?_); intro V1 h6 b6 z6; (have l6 : w.heap.size < V1.heap.size := (by omega)); clear z6; simp only [Act.put, List.setIfInBounds_toArray, List.set_cons_succ, List.set_cons_zero])
    | (go_at_call 44; (with_reducible refine (HQ.out _).mono ?_); rintro e w' ⟨rfl, rfl⟩)
    | ((with_reducible refine wpList_build_at (dst := some 9) 65 #[] #[] _ (by kernel_rfl) (by kernel_rfl) (build_sum _) ?_); simp only [Act.put, List.setIfInBounds_toArray, List.set_cons_succ, List.set_cons_zero])
    | ((with_reducible refine wpList_store_held 65 (.tmp 4) (.tmp 9) w.heap.size 65 _ SumS.zero.arr (by kernel_rfl) (by kernel_rfl) (by kernel_rfl) h6 (by rfl) IZ0.out (sum_one _) ?_); intro V2 g6 b2 z2; clear z2; simp only [Act.put, List.setIfInBounds_toArray, List.set_cons_succ, List.set_cons_zero]))
  refine bodyPost_ret (results_cell_held rfl _ _ _ _ _ _ (by kernel_rfl) g6 Tryd.underlying65 (by kernel_rfl) IZ0.out) rfl ?_
  exact ⟨rfl, b6.trans (b2.below (Nat.le_refl _) (by omega))⟩
set_option maxHeartbeats 2000000 in
theorem total_none (m k : Int) (w : World) : Calls Tryd.prog 40 #[.pointer none, .int .i64 m, .int .i64 k] w fun e w' => e = .returned (.agg Tot.zero.arr) ∧ Below w.heap.size w w' := by
  have HQ := Lib.hid (fun v => is_none m v)
  have ITs : Hid ((Tryd.prog.info? 56).map (·.size) = some Tot.zero.arr.size) := Lib.hid tot_size
  go_in
  go_wp2_with (first
    | ((with_reducible refine wpList_alloc_held (dst := some 6) 56 Tot.zero.arr (by kernel_rfl) alloc_tot ?_); intro V1 h6 b6 z6; (have l6 : w.heap.size < V1.heap.size := (by omega)); clear z6; simp only [Act.put, List.setIfInBounds_toArray, List.set_cons_succ, List.set_cons_zero])
    | (go_at_call 44; (with_reducible refine (HQ.out _).mono ?_); rintro e w' ⟨rfl, rfl⟩)
    | ((with_reducible refine wpList_store_held 56 (.tmp 6) (.tmp 19) w.heap.size 56 _ Tot.zero.arr (by kernel_rfl) (by kernel_rfl) (by kernel_rfl) h6 (by kernel_rfl) (by kernel_rfl) (tot_one _) ?_); intro V2 g6 b2 z2; clear z2; simp only [Act.put, List.setIfInBounds_toArray, List.set_cons_succ, List.set_cons_zero]))
  refine bodyPost_ret (results_cell_held rfl _ _ _ _ _ _ (by kernel_rfl) g6 Tryd.underlying56 (by kernel_rfl) (by kernel_rfl)) rfl ?_
  exact ⟨rfl, b6.trans (b2.below (Nat.le_refl _) (by omega))⟩
theorem blen_at {K : Int} {b : Bk} (hb : b.ok K) {p : Value} {w : World} (h : BookAt w p b) : Calls Tryd.prog 28 #[p] w fun e w' => e = .returned (.int .i64 b.many) ∧ w' = w := by
  rcases h with ⟨rfl, rfl⟩ | ⟨g, rfl, h⟩
  · exact len_none w
  · exact len_any K b hb g w h
theorem bseals_at {K : Int} {b : Bk} (hb : b.ok K) {p : Value} {w : World} (h : BookAt w p b) : Calls Tryd.prog 29 #[p] w fun e w' => e = .returned (.int .i64 b.seals) ∧ w' = w := by
  rcases h with ⟨rfl, rfl⟩ | ⟨g, rfl, h⟩
  · exact seals_none w
  · exact seals_any K b hb g w h
theorem bsum_at {K : Int} {b : Bk} (hb : b.ok K) {p : Value} {w : World} (h : BookAt w p b) (m : Int) : Calls Tryd.prog 39 #[p, .int .i64 m] w fun e w' => e = .returned (.agg (b.sumI m).arr) ∧ Below w.heap.size w w' := by
  rcases h with ⟨rfl, rfl⟩ | ⟨g, rfl, h⟩
  · rw [show Bk.zero.sumI m = SumS.zero from zero_sumI m]; exact sum_none m w
  · exact bsum_any K b hb g m w h
theorem btot_at {K : Int} {b : Bk} (hb : b.ok K) {p : Value} {w : World} (h : BookAt w p b) (m k : Int) : Calls Tryd.prog 40 #[p, .int .i64 m, .int .i64 k] w fun e w' => e = .returned (.agg (b.totI m k).arr) ∧ Below w.heap.size w w' := by
  rcases h with ⟨rfl, rfl⟩ | ⟨g, rfl, h⟩
  · rw [show Bk.zero.totI m k = Tot.zero from zero_totI m k]; exact total_none m k w
  · exact total_any K b hb g m k w h
theorem sum_start {W : World} {B : Nat} {u : TypeId} {s : SumS} (h : Held W B u s.arr) : W.cell? ⟨B, 9, none⟩ = some (.int .i64 s.last.start) := (h.cell 9).trans (by simp [SumS.arr, SumS.cells, Ent.cells])
/-- A meter's values. -/
def meterH (m : Nat) (s : SumS) : List ValP := [⟨m, 0, empS⟩, ⟨0, s.energy, empS⟩, ⟨0, s.cost, empS⟩, lowP s.intervals, lowP s.flagged, lowP s.suspects, lowP s.replaced, lowP s.corrected, ⟨IntKind.u64.wrap s.last.start, 0, empS⟩]
def bandsV (b : Bk) (m k : Nat) : List ValP := (List.range k).map fun j => ⟨0, (b.totAt m j).energy, empS⟩
def meterV (b : Bk) (m : Nat) : List ValP := meterH m (b.sumAt m) ++ bandsV b m 8
theorem bandsV_succ (b : Bk) (m k : Nat) : bandsV b m (k + 1) = bandsV b m k ++ [⟨0, (b.totAt m k).energy, empS⟩] := by
  unfold bandsV
  rw [List.range_succ, List.map_append]; rfl
theorem info_value : (Tryd.prog.info? 46).map (fun i => (i.zero, i.size, i.bytes)) = some (some (.agg #[.int .u64 0, .int .i64 0, .string ⟨#[]⟩]), 3, 32) := by kernel_rfl
theorem tot_field (a b c : Int) (w : World) : (Instr.field 56 (.agg #[.int .i64 a, .int .i64 b, .int .i64 c]) 0).run Tryd.prog w = .ok (.int .i64 a) w := by kernel_rfl
def MeterPost (b : Bk) (m : Nat) (w : World) (e : Ending) (w' : World) : Prop := ∃ Ap cp Av cv, e = .returned (.agg #[.int .i64 201, .slice Ap 17 cp, .slice Av 17 cv]) ∧ PtI w' w'.heap.size Ap 17 cp P17 ∧ VlI w' w'.heap.size Av 17 cv (meterV b m) ∧ TyAt w' 42 Ap ∧ TyAt w' 46 Av ∧ Below w.heap.size w w'
/-- The result's variable, the block that grows, its values' own row, its points. -/
def MtrI (w : World) (base g6 : Nat) (Ap : Option Addr) (cp : Nat) (v : Value) (n : Nat) (xs : List Value) (W : World) : Prop :=
  Held W w.heap.size 37 #[.int .i64 0, .slice none 0 0, .slice none 0 0] ∧ Held W g6 37 #[.int .i64 201, .slice Ap 17 cp, v] ∧ W.ownsRow base 46 3 v n xs ∧ PtI W W.heap.size Ap 17 cp P17 ∧ TyAt W 42 Ap ∧ Below w.heap.size w W ∧ base ≤ W.heap.size ∧ w.heap.size < base ∧ base ≤ g6
theorem TyAt.up {W W' : World} {T : TypeId} {A : Option Addr} (h : TyAt W T A) (hb : Below W.heap.size W W') : TyAt W' T A := fun a e => by
  obtain ⟨cs, hc⟩ := h a e
  exact ⟨cs, (hb.block _ (Array.getElem?_eq_some_iff.1 hc).1).trans hc⟩
theorem TyAt.ne {W : World} {T T' : TypeId} {A : Option Addr} {g : Nat} {cs : Array Value} (h : TyAt W T A) (hh : Held W g T' cs) (ht : T ≠ T') : ∀ a, A = some a → a.block ≠ g := fun a e hg => by
  obtain ⟨c2, hc⟩ := h a e
  rw [hg] at hc
  have := hc.symm.trans hh
  injection this with this
  injection this with _ h2
  exact ht h2
theorem TyAt.off {W : World} {T T' : TypeId} {A : Option Addr} {base size n : Nat} {v : Value} {xs : List Value} (h : TyAt W T A) (hr : W.ownsRow base T' size v n xs) (ht : T ≠ T') : ∀ a, A = some a → some a.block ≠ v.ownBlock := fun a e hg => by
  obtain ⟨c2, hc⟩ := h a e
  rcases hr.2 with ⟨rfl, _⟩ | ⟨g, cap, cur, rfl, _, hh, _⟩
  · simp [Value.ownBlock] at hg
  · obtain rfl : a.block = g := by simpa [Value.ownBlock] using hg
    have := hc.symm.trans hh
    injection this with this
    injection this with _ h2
    exact ht h2
theorem MtrI.up {w : World} {base g6 : Nat} {Ap : Option Addr} {cp : Nat} {v : Value} {n : Nat} {xs : List Value} {W W' : World} (h : MtrI w base g6 Ap cp v n xs W) (hb : Below W.heap.size W W') : MtrI w base g6 Ap cp v n xs W' := by
  obtain ⟨h1, h2, h3, h4, h5, h6, h7, h8, h9⟩ := h
  exact ⟨h1.below hb h1.lt, h2.below hb h2.lt, lown_up h3 hb, h4.up hb, h5.up hb, h6.trans (hb.mono h6.size), Nat.le_trans h7 hb.size, h8, h9⟩
theorem MtrI.app {w : World} {base g6 : Nat} {Ap : Option Addr} {cp : Nat} {v v9 : Value} {n n9 : Nat} {xs ys : List Value} {W V9 : World} (h : MtrI w base g6 Ap cp v n xs W) (gr : W.grownBy V9 v.ownBlock) (o9 : V9.ownsRow base 46 3 v9 n9 ys) : MtrI w base g6 Ap cp v9 n9 ys (V9.setCell ⟨g6, 2, none⟩ v9) := by
  obtain ⟨h1, h2, h3, h4, h5, h6, h7, h8, h9⟩ := h
  have k1 := h1.kept gr (h1.not_row (by decide) h3)
  have k2 := h2.kept gr (h2.not_row (by decide) h3)
  have hk : ∀ a, Ap = some a → V9.heap[a.block]? = W.heap[a.block]? := fun a e => gr.block _ (h4.lt (by omega) a e) (h5.off h3 (by decide) a e)
  have k4 : PtI V9 V9.heap.size Ap 17 cp P17 := h4.kept gr.size hk
  have k5 := h5.same hk
  have hne := k5.ne k2 (by decide)
  have hk2 : ∀ a, Ap = some a → (V9.setCell ⟨g6, 2, none⟩ v9).heap[a.block]? = V9.heap[a.block]? := fun a e => Below.heap_setCell _ _ _ _ (by show a.block ≠ g6; exact hne a e)
  refine ⟨k1.far (p := ⟨g6, 2, none⟩) (by show w.heap.size ≠ g6; omega) _, k2.set 2 v9, lown_same o9 fun b hb => Below.heap_setCell _ _ _ b (by
    show b ≠ g6
    rintro rfl
    exact (k2.not_row (by decide) o9) hb.symm), by rw [World.size_setCell]; exact k4.kept (Nat.le_refl _) hk2, k5.same hk2, ?_, ?_, h8, h9⟩
  · exact (h6.grown gr (by omega) (fun b hb => by have := (h3.lt b hb).1; omega)).setCell (p := ⟨g6, 2, none⟩) (by show w.heap.size ≤ g6; omega) _
  · rw [World.size_setCell]; exact Nat.le_trans h7 gr.size
theorem MtrI.made {w : World} {base g6 : Nat} {Ap : Option Addr} {cp : Nat} {v : Value} {n : Nat} {xs : List Value} {W : World} (h1 : Held W w.heap.size 37 #[.int .i64 0, .slice none 0 0, .slice none 0 0]) (h2 : Held W g6 37 #[.int .i64 0, .slice none 0 0, .slice none 0 0]) (h3 : W.ownsRow base 46 3 v n xs)
    (h4 : PtI W W.heap.size Ap 17 cp P17) (h5 : TyAt W 42 Ap) (h6 : Below w.heap.size w W) (h7 : base ≤ W.heap.size) (h8 : w.heap.size < base) (h9 : base ≤ g6) : MtrI w base g6 Ap cp v n xs (((W.setCell ⟨g6, 0, none⟩ (.int .i64 201)).setCell ⟨g6, 1, none⟩ (.slice Ap 17 cp)).setCell ⟨g6, 2, none⟩ v) := by
  have hg : ∀ b, b ≠ g6 → (((W.setCell ⟨g6, 0, none⟩ (.int .i64 201)).setCell ⟨g6, 1, none⟩ (.slice Ap 17 cp)).setCell ⟨g6, 2, none⟩ v).heap[b]? = W.heap[b]? := fun b hb => (Below.heap_setCell _ _ _ b hb).trans ((Below.heap_setCell _ _ _ b hb).trans (Below.heap_setCell _ _ _ b hb))
  have hk : ∀ a, Ap = some a → (((W.setCell ⟨g6, 0, none⟩ (.int .i64 201)).setCell ⟨g6, 1, none⟩ (.slice Ap 17 cp)).setCell ⟨g6, 2, none⟩ v).heap[a.block]? = W.heap[a.block]? := fun a e => hg _ (h5.ne h2 (by decide) a e)
  have hsz : (((W.setCell ⟨g6, 0, none⟩ (.int .i64 201)).setCell ⟨g6, 1, none⟩ (.slice Ap 17 cp)).setCell ⟨g6, 2, none⟩ v).heap.size = W.heap.size := by simp only [World.size_setCell]
  refine ⟨(hg _ (by omega)).trans h1, set3 h2 _ _ _, lown_same h3 fun b hb => hg b (by rintro rfl; exact (h2.not_row (by decide) h3) hb.symm), by rw [hsz]; exact h4.kept (Nat.le_refl _) hk, h5.same hk, set3_below h6 (by omega) _ _ _, by rw [hsz]; exact h7, h8, h9⟩
/-- What stands at the loop's head. -/
def MtrQ (b : Bk) (m : Nat) (w : World) (base g6 : Nat) (Ap : Option Addr) (cp : Nat) (v45 : Value) (W : World) : Prop :=
  ∃ (k : Nat) (v : Value), k ≤ 8 ∧ v45 = .int .i64 k ∧ MtrI w base g6 Ap cp v (9 + k) (valC (meterH m (b.sumAt m) ++ bandsV b m k)) W
theorem valC_app (a c : List ValP) : valC (a ++ c) = valC a ++ valC c := by unfold valC; rw [List.flatMap_append]
set_option maxHeartbeats 4000000 in
theorem meter_own (K : Int) (hK : K ≤ 100000) (b : Bk) (hb : b.ok K) (p : Value) (m : Nat) (hm : m < 64) (w : World) (hp : BookAt w p b) (hT : PtsT w) : Calls Tryd.prog 30 #[p, .int .i64 m] w (MeterPost b m w) := by
  have HBK := Lib.hid hb
  obtain ⟨S, hS⟩ : ∃ S, b.sumAt m = S := ⟨_, rfl⟩
  have hbs := hb.sumAt m hm
  have hSI : b.sumI m = S := by rw [← hS]; exact sumI_nat b m hm
  have HSU := Lib.hid (fun (V : World) (hV : BookAt V p b) => bsum_at hb hV (m : Int))
  rw [hSI] at HSU
  rw [hS] at hbs
  have HSE := Lib.hid hS
  have ISs : Hid ((Tryd.prog.info? 65).map (·.size) = some S.arr.size) := Lib.hid (by rw [sum_size, SumS.arr_size _ hbs.hash])
  have IZ : Hid (S.arr.size = SumS.zero.arr.size) := Lib.hid (by rw [SumS.arr_size _ hbs.hash, SumS.arr_size _ rfl])
  have HP := Lib.hid hp
  have HT := Lib.hid hT
  have hmu : IntKind.u64.wrap (m : Int) = (m : Int) := by simp only [IntKind.wrap_u64]; omega
  clear hS hSI hbs hp hT
  have b1 : Below w.heap.size w (w.alloc (.cells #[.int .i64 0, .slice none 0 0, .slice none 0 0] 37)) := (Below.refl _ w).alloc (Nat.le_refl _) _
  have h4 : Held (w.alloc (.cells #[.int .i64 0, .slice none 0 0, .slice none 0 0] 37)) w.heap.size 37 #[.int .i64 0, .slice none 0 0, .slice none 0 0] := Held.new w _ _
  go_in
  go_upto_region 1 with fail
  generalize w.alloc (.cells #[.int .i64 0, .slice none 0 0, .slice none 0 0] 37) = W1 at b1 h4 ⊢
  have h4l := h4.lt
  have hp1 := HP.out.up b1
  go_upto_region 2 with (first
    | (go_at_call 39; (with_reducible refine (HSU.out _ hp1).mono ?_); rintro e W2 ⟨rfl, b2⟩; (have z2 := b2.size))
    | ((with_reducible refine wpList_alloc_held (dst := some 5) 65 SumS.zero.arr (by kernel_rfl) alloc_sum ?_); intro W3 h5 b3 z3; (have l5 : W2.heap.size < W3.heap.size := (by omega)); clear z3; simp only [Act.put, List.setIfInBounds_toArray, List.set_cons_succ, List.set_cons_zero])
    | ((with_reducible refine wpList_store_held 65 (.tmp 5) (.tmp 10) W2.heap.size 65 _ S.arr (by kernel_rfl) (by kernel_rfl) (by kernel_rfl) h5 IZ.out ISs.out (sum_one _) ?_); intro W4 g5 b4 z4; clear z4; simp only [Act.put, List.setIfInBounds_toArray, List.set_cons_succ, List.set_cons_zero]))
  have b14 : Below W1.heap.size W1 W4 := (b2.trans (b3.mono z2)).trans (b4.below z2 (by omega))
  have h44 := h4.below b14 h4l
  have bw4 := b1.trans (b14.mono b1.size)
  have g5l := g5.lt
  clear b2 b3 b4 h5 b14 h4 hp1 z2 l5
  generalize W2.heap.size = p5 at g5 g5l ⊢
  obtain ⟨wd, hwd⟩ : ∃ Y : World, W4.drew = Y := ⟨_, rfl⟩
  have h4d : Held wd w.heap.size 37 #[.int .i64 0, .slice none 0 0, .slice none 0 0] := by rw [← hwd]; exact h44.drew
  have h5d : Held wd p5 65 S.arr := by rw [← hwd]; exact g5.drew
  have bwd : Below w.heap.size w wd := by rw [← hwd]; exact bw4.drew
  have h5l := h5d.lt
  have h4l' := h4d.lt
  have HDF := Lib.hid (fun (V : World) (hV : Below w.heap.size w V) => defs_any V (HT.out.up hV))
  have L3 := Lib.hid (fun V => low_any S.intervals V)
  have L4 := Lib.hid (fun V => low_any S.flagged V)
  have L5 := Lib.hid (fun V => low_any S.suspects V)
  have L6 := Lib.hid (fun V => low_any S.replaced V)
  have L7 := Lib.hid (fun V => low_any S.corrected V)
  unfold valV lowP at L3 L4 L5 L6 L7
  clear h44 g5 bw4 g5l
  have hS := Below.refl wd.heap.size wd
  have bw := bwd
  have h4c := h4d
  obtain ⟨base, hbase, hwbase⟩ : ∃ n, n ≤ wd.heap.size ∧ w.heap.size < n := ⟨wd.heap.size, Nat.le_refl _, h4l'⟩
  go_cut [6] from 8 (fun s6 wx => ∃ g6 Ap cp gv, s6 = .pointer (some ⟨g6, 0, none⟩) ∧ MtrI w base g6 Ap cp (.slice (some ⟨gv, 0, none⟩) 9 9) 9 (valC (meterH m S)) wx)
  case first =>
    refine wp_region_held (S := fun Y => Below wd.heap.size wd Y) (by kernel_rfl) ?_
    change wpAnyH _ _ _ _ _ _ _ _ W4.drew
    rw [hwd]
    clear hwd
    refine wpAnyH_take (i := 3) (v := ?v3_1) rfl (by kernel_rfl) (by kernel_rfl) (by kernel_rfl) (fun _ _ _ h => h) (Or.inl ⟨by rfl, ?y3_1⟩) hS ?r3_1
    case y3_1 =>
      rintro W hH
      go_simp
      with_reducible rfl
    simp only [Act.put]
    try simp only [List.getElem_toArray, List.getElem_cons_succ, List.getElem_cons_zero]
    try simp only [List.setIfInBounds_toArray, List.set_cons_succ, List.set_cons_zero]
    refine wpAnyH_take (i := 4) (v := ?v4_2) rfl (by kernel_rfl) (by kernel_rfl) (by kernel_rfl) (fun _ _ _ h => h) (Or.inl ⟨by rfl, ?y4_2⟩) hS ?r4_2
    case y4_2 =>
      rintro W hH
      go_simp
      with_reducible rfl
    simp only [Act.put]
    try simp only [List.getElem_toArray, List.getElem_cons_succ, List.getElem_cons_zero]
    try simp only [List.setIfInBounds_toArray, List.set_cons_succ, List.set_cons_zero]
    refine wpAnyH_take (i := 5) (v := ?v5_3) rfl (by kernel_rfl) (by kernel_rfl) (by kernel_rfl) (fun _ _ _ h => h) (Or.inl ⟨by rfl, ?y5_3⟩) hS ?r5_3
    case y5_3 =>
      rintro W hH
      go_simp
      with_reducible rfl
    simp only [Act.put]
    try simp only [List.getElem_toArray, List.getElem_cons_succ, List.getElem_cons_zero]
    try simp only [List.setIfInBounds_toArray, List.set_cons_succ, List.set_cons_zero]
    refine wpAnyH_take (i := 6) (v := ?v6_4) rfl (by kernel_rfl) (by kernel_rfl) (by kernel_rfl) (fun _ _ _ h => h) (Or.inl ⟨by rfl, ?y6_4⟩) hS ?r6_4
    case y6_4 =>
      rintro W hH
      go_simp
      with_reducible rfl
    simp only [Act.put]
    try simp only [List.getElem_toArray, List.getElem_cons_succ, List.getElem_cons_zero]
    try simp only [List.setIfInBounds_toArray, List.set_cons_succ, List.set_cons_zero]
    refine wpAnyH_take (i := 7) (v := ?v7_5) rfl (by kernel_rfl) (by kernel_rfl) (by kernel_rfl) (fun _ _ _ h => h) (Or.inl ⟨by rfl, ?y7_5⟩) hS ?r7_5
    case y7_5 =>
      rintro W hH
      have hHb : Below wd.heap.size wd W := by first | exact hH | exact hH.1
      obtain ⟨sc0, sc1, sc2, sc3, sc4, sc5, sc6⟩ := sum_cells (h5d.below hHb h5l)
      have sc9 := sum_start (h5d.below hHb h5l)
      try (have hd2 := hH.2.cell 2; have hd3 := hH.2.cell 3; simp only [List.getElem?_toArray, List.getElem?_cons_zero, List.getElem?_cons_succ] at hd2 hd3)
      go_simp
      with_reducible rfl
    simp only [Act.put]
    try simp only [List.getElem_toArray, List.getElem_cons_succ, List.getElem_cons_zero]
    try simp only [List.setIfInBounds_toArray, List.set_cons_succ, List.set_cons_zero]
    refine wpAnyH_take (i := 8) (v := ?v8_6) rfl (by kernel_rfl) (by kernel_rfl) (by kernel_rfl) (fun _ _ _ h => h) (Or.inl ⟨by rfl, ?y8_6⟩) hS ?r8_6
    case y8_6 =>
      rintro W hH
      go_simp
      with_reducible rfl
    simp only [Act.put]
    try simp only [List.getElem_toArray, List.getElem_cons_succ, List.getElem_cons_zero]
    try simp only [List.setIfInBounds_toArray, List.set_cons_succ, List.set_cons_zero]
    refine wpAnyH_take (i := 9) (v := ?v9_7) rfl (by kernel_rfl) (by kernel_rfl) (by kernel_rfl) (fun _ _ _ h => h) (Or.inl ⟨by rfl, ?y9_7⟩) hS ?r9_7
    case y9_7 =>
      rintro W hH
      go_simp
      with_reducible rfl
    simp only [Act.put]
    try simp only [List.getElem_toArray, List.getElem_cons_succ, List.getElem_cons_zero]
    try simp only [List.setIfInBounds_toArray, List.set_cons_succ, List.set_cons_zero]
    refine wpAnyH_take (i := 10) (v := ?v10_8) rfl (by kernel_rfl) (by kernel_rfl) (by kernel_rfl) (fun _ _ _ h => h) (Or.inl ⟨by rfl, ?y10_8⟩) hS ?r10_8
    case y10_8 =>
      rintro W hH
      have hHb : Below wd.heap.size wd W := by first | exact hH | exact hH.1
      obtain ⟨sc0, sc1, sc2, sc3, sc4, sc5, sc6⟩ := sum_cells (h5d.below hHb h5l)
      have sc9 := sum_start (h5d.below hHb h5l)
      try (have hd2 := hH.2.cell 2; have hd3 := hH.2.cell 3; simp only [List.getElem?_toArray, List.getElem?_cons_zero, List.getElem?_cons_succ] at hd2 hd3)
      go_simp
      with_reducible rfl
    simp only [Act.put]
    try simp only [List.getElem_toArray, List.getElem_cons_succ, List.getElem_cons_zero]
    try simp only [List.setIfInBounds_toArray, List.set_cons_succ, List.set_cons_zero]
    refine wpAnyH_take (i := 11) (v := ?v11_9) rfl (by kernel_rfl) (by kernel_rfl) (by kernel_rfl) (fun _ _ _ h => h) (Or.inl ⟨by rfl, ?y11_9⟩) hS ?r11_9
    case y11_9 =>
      rintro W hH
      go_simp
      with_reducible rfl
    simp only [Act.put]
    try simp only [List.getElem_toArray, List.getElem_cons_succ, List.getElem_cons_zero]
    try simp only [List.setIfInBounds_toArray, List.set_cons_succ, List.set_cons_zero]
    refine wpAnyH_take (i := 12) (v := ?v12_10) rfl (by kernel_rfl) (by kernel_rfl) (by kernel_rfl) (fun _ _ _ h => h) (Or.inl ⟨by rfl, ?y12_10⟩) hS ?r12_10
    case y12_10 =>
      rintro W hH
      go_simp
      with_reducible rfl
    simp only [Act.put]
    try simp only [List.getElem_toArray, List.getElem_cons_succ, List.getElem_cons_zero]
    try simp only [List.setIfInBounds_toArray, List.set_cons_succ, List.set_cons_zero]
    refine wpAnyH_take (i := 13) (v := ?v13_11) rfl (by kernel_rfl) (by kernel_rfl) (by kernel_rfl) (fun _ _ _ h => h) (Or.inl ⟨by rfl, ?y13_11⟩) hS ?r13_11
    case y13_11 =>
      rintro W hH
      have hHb : Below wd.heap.size wd W := by first | exact hH | exact hH.1
      obtain ⟨sc0, sc1, sc2, sc3, sc4, sc5, sc6⟩ := sum_cells (h5d.below hHb h5l)
      have sc9 := sum_start (h5d.below hHb h5l)
      try (have hd2 := hH.2.cell 2; have hd3 := hH.2.cell 3; simp only [List.getElem?_toArray, List.getElem?_cons_zero, List.getElem?_cons_succ] at hd2 hd3)
      go_simp
      with_reducible rfl
    simp only [Act.put]
    try simp only [List.getElem_toArray, List.getElem_cons_succ, List.getElem_cons_zero]
    try simp only [List.setIfInBounds_toArray, List.set_cons_succ, List.set_cons_zero]
    refine wpAnyH_take (i := 15) (v := ?v15_12) rfl (by kernel_rfl) (by kernel_rfl) (by kernel_rfl) (fun _ _ _ h => h) (Or.inl ⟨by rfl, ?y15_12⟩) hS ?r15_12
    case y15_12 =>
      rintro W hH
      go_simp
      with_reducible rfl
    simp only [Act.put]
    try simp only [List.getElem_toArray, List.getElem_cons_succ, List.getElem_cons_zero]
    try simp only [List.setIfInBounds_toArray, List.set_cons_succ, List.set_cons_zero]
    refine wpAnyH_take (i := 16) (v := ?v16_13) rfl (by kernel_rfl) (by kernel_rfl) (by kernel_rfl) (fun _ _ _ h => h) (Or.inl ⟨by rfl, ?y16_13⟩) hS ?r16_13
    case y16_13 =>
      rintro W hH
      have hHb : Below wd.heap.size wd W := by first | exact hH | exact hH.1
      obtain ⟨sc0, sc1, sc2, sc3, sc4, sc5, sc6⟩ := sum_cells (h5d.below hHb h5l)
      have sc9 := sum_start (h5d.below hHb h5l)
      try (have hd2 := hH.2.cell 2; have hd3 := hH.2.cell 3; simp only [List.getElem?_toArray, List.getElem?_cons_zero, List.getElem?_cons_succ] at hd2 hd3)
      go_simp
      with_reducible rfl
    simp only [Act.put]
    try simp only [List.getElem_toArray, List.getElem_cons_succ, List.getElem_cons_zero]
    try simp only [List.setIfInBounds_toArray, List.set_cons_succ, List.set_cons_zero]
    refine wpAnyH_take (i := 18) (v := ?v18_14) rfl (by kernel_rfl) (by kernel_rfl) (by kernel_rfl) (fun _ _ _ h => h) (Or.inl ⟨by rfl, ?y18_14⟩) hS ?r18_14
    case y18_14 =>
      rintro W hH
      go_simp
      with_reducible rfl
    simp only [Act.put]
    try simp only [List.getElem_toArray, List.getElem_cons_succ, List.getElem_cons_zero]
    try simp only [List.setIfInBounds_toArray, List.set_cons_succ, List.set_cons_zero]
    refine wpAnyH_take (i := 19) (v := ?v19_15) rfl (by kernel_rfl) (by kernel_rfl) (by kernel_rfl) (fun _ _ _ h => h) (Or.inl ⟨by rfl, ?y19_15⟩) hS ?r19_15
    case y19_15 =>
      rintro W hH
      have hHb : Below wd.heap.size wd W := by first | exact hH | exact hH.1
      obtain ⟨sc0, sc1, sc2, sc3, sc4, sc5, sc6⟩ := sum_cells (h5d.below hHb h5l)
      have sc9 := sum_start (h5d.below hHb h5l)
      try (have hd2 := hH.2.cell 2; have hd3 := hH.2.cell 3; simp only [List.getElem?_toArray, List.getElem?_cons_zero, List.getElem?_cons_succ] at hd2 hd3)
      go_simp
      with_reducible rfl
    simp only [Act.put]
    try simp only [List.getElem_toArray, List.getElem_cons_succ, List.getElem_cons_zero]
    try simp only [List.setIfInBounds_toArray, List.set_cons_succ, List.set_cons_zero]
    refine wpAnyH_take (i := 21) (v := ?v21_16) rfl (by kernel_rfl) (by kernel_rfl) (by kernel_rfl) (fun _ _ _ h => h) (Or.inl ⟨by rfl, ?y21_16⟩) hS ?r21_16
    case y21_16 =>
      rintro W hH
      go_simp
      with_reducible rfl
    simp only [Act.put]
    try simp only [List.getElem_toArray, List.getElem_cons_succ, List.getElem_cons_zero]
    try simp only [List.setIfInBounds_toArray, List.set_cons_succ, List.set_cons_zero]
    refine wpAnyH_take (i := 22) (v := ?v22_17) rfl (by kernel_rfl) (by kernel_rfl) (by kernel_rfl) (fun _ _ _ h => h) (Or.inl ⟨by rfl, ?y22_17⟩) hS ?r22_17
    case y22_17 =>
      rintro W hH
      have hHb : Below wd.heap.size wd W := by first | exact hH | exact hH.1
      obtain ⟨sc0, sc1, sc2, sc3, sc4, sc5, sc6⟩ := sum_cells (h5d.below hHb h5l)
      have sc9 := sum_start (h5d.below hHb h5l)
      try (have hd2 := hH.2.cell 2; have hd3 := hH.2.cell 3; simp only [List.getElem?_toArray, List.getElem?_cons_zero, List.getElem?_cons_succ] at hd2 hd3)
      go_simp
      with_reducible rfl
    simp only [Act.put]
    try simp only [List.getElem_toArray, List.getElem_cons_succ, List.getElem_cons_zero]
    try simp only [List.setIfInBounds_toArray, List.set_cons_succ, List.set_cons_zero]
    refine wpAnyH_take (i := 24) (v := ?v24_18) rfl (by kernel_rfl) (by kernel_rfl) (by kernel_rfl) (fun _ _ _ h => h) (Or.inl ⟨by rfl, ?y24_18⟩) hS ?r24_18
    case y24_18 =>
      rintro W hH
      go_simp
      with_reducible rfl
    simp only [Act.put]
    try simp only [List.getElem_toArray, List.getElem_cons_succ, List.getElem_cons_zero]
    try simp only [List.setIfInBounds_toArray, List.set_cons_succ, List.set_cons_zero]
    refine wpAnyH_take (i := 25) (v := ?v25_19) rfl (by kernel_rfl) (by kernel_rfl) (by kernel_rfl) (fun _ _ _ h => h) (Or.inl ⟨by rfl, ?y25_19⟩) hS ?r25_19
    case y25_19 =>
      rintro W hH
      have hHb : Below wd.heap.size wd W := by first | exact hH | exact hH.1
      obtain ⟨sc0, sc1, sc2, sc3, sc4, sc5, sc6⟩ := sum_cells (h5d.below hHb h5l)
      have sc9 := sum_start (h5d.below hHb h5l)
      try (have hd2 := hH.2.cell 2; have hd3 := hH.2.cell 3; simp only [List.getElem?_toArray, List.getElem?_cons_zero, List.getElem?_cons_succ] at hd2 hd3)
      go_simp
      with_reducible rfl
    simp only [Act.put]
    try simp only [List.getElem_toArray, List.getElem_cons_succ, List.getElem_cons_zero]
    try simp only [List.setIfInBounds_toArray, List.set_cons_succ, List.set_cons_zero]
    refine wpAnyH_take (i := 27) (v := ?v27_20) rfl (by kernel_rfl) (by kernel_rfl) (by kernel_rfl) (fun _ _ _ h => h) (Or.inl ⟨by rfl, ?y27_20⟩) hS ?r27_20
    case y27_20 =>
      rintro W hH
      go_simp
      with_reducible rfl
    simp only [Act.put]
    try simp only [List.getElem_toArray, List.getElem_cons_succ, List.getElem_cons_zero]
    try simp only [List.setIfInBounds_toArray, List.set_cons_succ, List.set_cons_zero]
    refine wpAnyH_take (i := 28) (v := ?v28_21) rfl (by kernel_rfl) (by kernel_rfl) (by kernel_rfl) (fun _ _ _ h => h) (Or.inl ⟨by rfl, ?y28_21⟩) hS ?r28_21
    case y28_21 =>
      rintro W hH
      go_simp
      with_reducible rfl
    simp only [Act.put]
    try simp only [List.getElem_toArray, List.getElem_cons_succ, List.getElem_cons_zero]
    try simp only [List.setIfInBounds_toArray, List.set_cons_succ, List.set_cons_zero]
    refine wpAnyH_take (i := 29) (v := ?v29_22) rfl (by kernel_rfl) (by kernel_rfl) (by kernel_rfl) (fun _ _ _ h => h) (Or.inl ⟨by rfl, ?y29_22⟩) hS ?r29_22
    case y29_22 =>
      rintro W hH
      have hHb : Below wd.heap.size wd W := by first | exact hH | exact hH.1
      obtain ⟨sc0, sc1, sc2, sc3, sc4, sc5, sc6⟩ := sum_cells (h5d.below hHb h5l)
      have sc9 := sum_start (h5d.below hHb h5l)
      try (have hd2 := hH.2.cell 2; have hd3 := hH.2.cell 3; simp only [List.getElem?_toArray, List.getElem?_cons_zero, List.getElem?_cons_succ] at hd2 hd3)
      go_simp
      with_reducible rfl
    simp only [Act.put]
    try simp only [List.getElem_toArray, List.getElem_cons_succ, List.getElem_cons_zero]
    try simp only [List.setIfInBounds_toArray, List.set_cons_succ, List.set_cons_zero]
    refine wpAnyH_take (i := 30) (v := ?v30_23) rfl (by kernel_rfl) (by kernel_rfl) (by kernel_rfl) (fun _ _ _ h => h) (Or.inl ⟨by rfl, ?y30_23⟩) hS ?r30_23
    case y30_23 =>
      rintro W hH
      go_simp
      with_reducible rfl
    simp only [Act.put]
    try simp only [List.getElem_toArray, List.getElem_cons_succ, List.getElem_cons_zero]
    try simp only [List.setIfInBounds_toArray, List.set_cons_succ, List.set_cons_zero]
    refine wpAnyH_take (i := 31) (v := ?v31_24) rfl (by kernel_rfl) (by kernel_rfl) (by kernel_rfl) (fun _ _ _ h => h) (Or.inl ⟨by rfl, ?y31_24⟩) hS ?r31_24
    case y31_24 =>
      rintro W hH
      go_simp
      with_reducible rfl
    simp only [Act.put]
    try simp only [List.getElem_toArray, List.getElem_cons_succ, List.getElem_cons_zero]
    try simp only [List.setIfInBounds_toArray, List.set_cons_succ, List.set_cons_zero]
    refine wpAnyH_ready (rs := [0, 34]) (by kernel_rfl) (by simp) ?_
    refine AllReadyH.cons rfl (fun K' hK' => ?_) (AllReadyH.cons rfl (fun K' hK' => ?_) AllReadyH.nil)
    · skip
      go_simp
      refine (HDF.out wd bw).mono ?_
      rintro e X1 ⟨gd, g1, A2, c2, rfl, hgd, hDd, hP5, hPT, hTY, _, bk⟩
      dsimp only
      have bw := bw.trans (bk.mono bw.size)
      have h4c := h4c.below bk h4c.lt
      have hSn := hS.trans (bk.mono hS.size)
      replace hSn := And.intro hSn hDd
      clear bk
      refine hK'.out _ _ hSn.1 (fun hS => ?_)
      clear hK' K'
      replace hS := hSn
      refine wpAnyH_str (S' := fun Y => Below wd.heap.size wd Y ∧ Held Y gd 34 #[.int .i64 1, .slice (some ⟨g1, 0, none⟩) 5 5, .int .i64 201, .slice A2 17 c2]) (fun _ h => h.1) _ _ _ _ ?_
      refine wpAnyH_take (i := 1) (v := ?v1_25) rfl (by kernel_rfl) (by kernel_rfl) (by kernel_rfl) (fun _ _ _ h => h) (Or.inl ⟨by rfl, ?y1_25⟩) hS ?r1_25
      case y1_25 =>
        rintro W hH
        go_simp
        with_reducible rfl
      simp only [Act.put]
      try simp only [List.getElem_toArray, List.getElem_cons_succ, List.getElem_cons_zero]
      try simp only [List.setIfInBounds_toArray, List.set_cons_succ, List.set_cons_zero]
      refine wpAnyH_take (i := 2) (v := ?v2_26) rfl (by kernel_rfl) (by kernel_rfl) (by kernel_rfl) (fun _ _ _ h => h) (Or.inl ⟨by rfl, ?y2_26⟩) hS ?r2_26
      case y2_26 =>
        rintro W hH
        have hHb : Below wd.heap.size wd W := by first | exact hH | exact hH.1
        obtain ⟨sc0, sc1, sc2, sc3, sc4, sc5, sc6⟩ := sum_cells (h5d.below hHb h5l)
        have sc9 := sum_start (h5d.below hHb h5l)
        try (have hd2 := hH.2.cell 2; have hd3 := hH.2.cell 3; simp only [List.getElem?_toArray, List.getElem?_cons_zero, List.getElem?_cons_succ] at hd2 hd3)
        go_simp
        with_reducible rfl
      simp only [Act.put]
      try simp only [List.getElem_toArray, List.getElem_cons_succ, List.getElem_cons_zero]
      try simp only [List.setIfInBounds_toArray, List.set_cons_succ, List.set_cons_zero]
      refine wpAnyH_ready (rs := [14, 34]) (by kernel_rfl) (by simp) ?_
      refine AllReadyH.cons rfl (fun K' hK' => ?_) (AllReadyH.cons rfl (fun K' hK' => ?_) AllReadyH.nil)
      · skip
        go_simp
        refine (L3.out _).mono ?_
        rintro e X2 ⟨rfl, bk⟩
        dsimp only
        have bw := bw.trans (bk.mono bw.size)
        have h4c := h4c.below bk h4c.lt
        have hPT := hPT.up bk
        have hTY := hTY.up bk
        have hSn := And.intro (hS.1.trans (bk.mono hS.1.size)) (hS.2.below bk hS.2.lt)
        clear bk
        refine hK'.out _ _ hSn (fun hS => ?_)
        clear hK' K'
        refine wpAnyH_ready (rs := [17, 34]) (by kernel_rfl) (by simp) ?_
        refine AllReadyH.cons rfl (fun K' hK' => ?_) (AllReadyH.cons rfl (fun K' hK' => ?_) AllReadyH.nil)
        · skip
          go_simp
          refine (L4.out _).mono ?_
          rintro e X3 ⟨rfl, bk⟩
          dsimp only
          have bw := bw.trans (bk.mono bw.size)
          have h4c := h4c.below bk h4c.lt
          have hPT := hPT.up bk
          have hTY := hTY.up bk
          have hSn := And.intro (hS.1.trans (bk.mono hS.1.size)) (hS.2.below bk hS.2.lt)
          clear bk
          refine hK'.out _ _ hSn (fun hS => ?_)
          clear hK' K'
          refine wpAnyH_ready (rs := [20, 34]) (by kernel_rfl) (by simp) ?_
          refine AllReadyH.cons rfl (fun K' hK' => ?_) (AllReadyH.cons rfl (fun K' hK' => ?_) AllReadyH.nil)
          · skip
            go_simp
            refine (L5.out _).mono ?_
            rintro e X4 ⟨rfl, bk⟩
            dsimp only
            have bw := bw.trans (bk.mono bw.size)
            have h4c := h4c.below bk h4c.lt
            have hPT := hPT.up bk
            have hTY := hTY.up bk
            have hSn := And.intro (hS.1.trans (bk.mono hS.1.size)) (hS.2.below bk hS.2.lt)
            clear bk
            refine hK'.out _ _ hSn (fun hS => ?_)
            clear hK' K'
            refine wpAnyH_ready (rs := [23, 34]) (by kernel_rfl) (by simp) ?_
            refine AllReadyH.cons rfl (fun K' hK' => ?_) (AllReadyH.cons rfl (fun K' hK' => ?_) AllReadyH.nil)
            · skip
              go_simp
              refine (L6.out _).mono ?_
              rintro e X5 ⟨rfl, bk⟩
              dsimp only
              have bw := bw.trans (bk.mono bw.size)
              have h4c := h4c.below bk h4c.lt
              have hPT := hPT.up bk
              have hTY := hTY.up bk
              have hSn := And.intro (hS.1.trans (bk.mono hS.1.size)) (hS.2.below bk hS.2.lt)
              clear bk
              refine hK'.out _ _ hSn (fun hS => ?_)
              clear hK' K'
              refine wpAnyH_ready (rs := [26, 34]) (by kernel_rfl) (by simp) ?_
              refine AllReadyH.cons rfl (fun K' hK' => ?_) (AllReadyH.cons rfl (fun K' hK' => ?_) AllReadyH.nil)
              · skip
                go_simp
                refine (L7.out _).mono ?_
                rintro e X6 ⟨rfl, bk⟩
                dsimp only
                have bw := bw.trans (bk.mono bw.size)
                have h4c := h4c.below bk h4c.lt
                have hPT := hPT.up bk
                have hTY := hTY.up bk
                have hSn := And.intro (hS.1.trans (bk.mono hS.1.size)) (hS.2.below bk hS.2.lt)
                clear bk
                refine hK'.out _ _ hSn (fun hS => ?_)
                clear hK' K'
                refine wpAnyH_ready (rs := [32, 34]) (by kernel_rfl) (by simp) ?_
                refine AllReadyH.cons rfl (fun K' hK' => ?_) (AllReadyH.cons rfl (fun K' hK' => ?_) AllReadyH.nil)
                · skip
                  go_simp
                  obtain ⟨X7, hX7⟩ : ∃ Y, X6.alloc (.cells #[.int .u64 ((m : Int)), .int .i64 (0), .string ⟨#[]⟩, .int .u64 (0), .int .i64 (S.energy), .string ⟨#[]⟩, .int .u64 (0), .int .i64 (S.cost), .string ⟨#[]⟩, .int .u64 (IntKind.u32.wrap S.intervals), .int .i64 (0), .string empS, .int .u64 (IntKind.u32.wrap S.flagged), .int .i64 (0), .string empS, .int .u64 (IntKind.u32.wrap S.suspects), .int .i64 (0), .string empS, .int .u64 (IntKind.u32.wrap S.replaced), .int .i64 (0), .string empS, .int .u64 (IntKind.u32.wrap S.corrected), .int .i64 (0), .string empS, .int .u64 (IntKind.u64.wrap S.last.start), .int .i64 (0), .string ⟨#[]⟩] 46) = Y := ⟨_, rfl⟩
                  have bk : Below X6.heap.size X6 X7 := by rw [← hX7]; exact (Below.refl _ _).alloc (Nat.le_refl _) _
                  have bw := bw.trans (bk.mono bw.size)
                  have h4c := h4c.below bk h4c.lt
                  have hPT := hPT.up bk
                  have hTY := hTY.up bk
                  have hSn := And.intro (hS.1.trans (bk.mono hS.1.size)) (hS.2.below bk hS.2.lt)
                  have hown : X7.ownsRow base 46 3 (.slice (some ⟨X6.heap.size, 0, none⟩) 9 9) 9 (valC (meterH m S)) := by rw [← hX7]; exact World.ownsRow_lit X6 #[.int .u64 ((m : Int)), .int .i64 (0), .string ⟨#[]⟩, .int .u64 (0), .int .i64 (S.energy), .string ⟨#[]⟩, .int .u64 (0), .int .i64 (S.cost), .string ⟨#[]⟩, .int .u64 (IntKind.u32.wrap S.intervals), .int .i64 (0), .string empS, .int .u64 (IntKind.u32.wrap S.flagged), .int .i64 (0), .string empS, .int .u64 (IntKind.u32.wrap S.suspects), .int .i64 (0), .string empS, .int .u64 (IntKind.u32.wrap S.replaced), .int .i64 (0), .string empS, .int .u64 (IntKind.u32.wrap S.corrected), .int .i64 (0), .string empS, .int .u64 (IntKind.u64.wrap S.last.start), .int .i64 (0), .string ⟨#[]⟩] 9 (by have := hS.1.size; omega) (by unfold maxLen; omega) rfl
                  have hgv : base ≤ X6.heap.size := by have := hS.1.size; omega
                  rw [hX7]
                  clear bk hX7
                  refine hK'.out _ _ hSn (fun hS => ?_)
                  clear hK' K'
                  refine wpAnyH_take (i := 33) (v := ?v33_27) rfl (by kernel_rfl) (by kernel_rfl) (by kernel_rfl) (fun _ _ _ h => h) (Or.inl ⟨by rfl, ?y33_27⟩) hS ?r33_27
                  case y33_27 =>
                    rintro W hH
                    go_simp
                    with_reducible rfl
                  simp only [Act.put]
                  try simp only [List.getElem_toArray, List.getElem_cons_succ, List.getElem_cons_zero]
                  try simp only [List.setIfInBounds_toArray, List.set_cons_succ, List.set_cons_zero]
                  refine wpAnyH_ready (rs := [34]) (by kernel_rfl) (by simp) ?_
                  refine AllReadyH.cons rfl (fun K' hK' => ?_) AllReadyH.nil
                  go_simp
                  obtain ⟨X8, hX8⟩ : ∃ Y, X7.alloc (.cells #[.int .i64 0, .slice none 0 0, .slice none 0 0] 37) = Y := ⟨_, rfl⟩
                  have bk : Below X7.heap.size X7 X8 := by rw [← hX8]; exact (Below.refl _ _).alloc (Nat.le_refl _) _
                  have bw := bw.trans (bk.mono bw.size)
                  have h4c := h4c.below bk h4c.lt
                  have hPT := hPT.up bk
                  have hTY := hTY.up bk
                  have hown := lown_up hown bk
                  have hSn := And.intro (hS.1.trans (bk.mono hS.1.size)) (hS.2.below bk hS.2.lt)
                  have hn6 : Held X8 X7.heap.size 37 #[.int .i64 0, .slice none 0 0, .slice none 0 0] := by rw [← hX8]; exact Held.new _ _ _
                  have hg6d : wd.heap.size ≤ X7.heap.size := hS.1.size
                  have hg6 : base ≤ X7.heap.size := by omega
                  rw [hX8]
                  clear bk hX8
                  refine hK'.out _ _ hSn (fun hS => ?_)
                  clear hK' K'
                  refine wpAnyH_ready (rs := [35]) (by kernel_rfl) (by simp) ?_
                  refine AllReadyH.cons rfl (fun K' hK' => ?_) AllReadyH.nil
                  have hMI := MtrI.made h4c hn6 hown hPT hTY bw (by have := hS.1.size; omega) (by omega) hg6
                  have hcf := hn6.frozen
                  have hc0 := hn6.cell 0
                  have hc1 := hn6.cell 1
                  have hc2 := hn6.cell 2
                  have hl6 := hn6.lt
                  have hdz : wd.heap.size ≤ X8.heap.size := hS.1.size
                  have hg0 := (hS.2.lt)
                  have hgn : gd ≠ X7.heap.size := fun e => absurd (show (34 : Nat) = 37 from by have h1 := hS.2; rw [e] at h1; have := h1.symm.trans hn6; injection this with this; injection this) (by decide)
                  have hSn := And.intro (set3_below hS.1 (B := X7.heap.size) (by omega) (.int .i64 201) (.slice A2 17 c2) (.slice (some ⟨X6.heap.size, 0, none⟩) 9 9)) (((hS.2.far (p := ⟨X7.heap.size, 0, none⟩) hgn (.int .i64 201)).far (p := ⟨X7.heap.size, 1, none⟩) hgn (.slice A2 17 c2)).far (p := ⟨X7.heap.size, 2, none⟩) hgn (.slice (some ⟨X6.heap.size, 0, none⟩) 9 9))
                  go_simp
                  refine hK'.out _ _ hSn (fun hS => ?_)
                  clear hK' K'
                  refine wpAnyH_done (by kernel_rfl) ?_ _
                  go_wp2_with fail
                  go_meet
                  case rel => exact ⟨_, _, _, _, rfl, hMI⟩
                · skip
                  go_simp
                  obtain ⟨X7, hX7⟩ : ∃ Y, X6.alloc (.cells #[.int .i64 0, .slice none 0 0, .slice none 0 0] 37) = Y := ⟨_, rfl⟩
                  have bk : Below X6.heap.size X6 X7 := by rw [← hX7]; exact (Below.refl _ _).alloc (Nat.le_refl _) _
                  have bw := bw.trans (bk.mono bw.size)
                  have h4c := h4c.below bk h4c.lt
                  have hPT := hPT.up bk
                  have hTY := hTY.up bk
                  have hSn := And.intro (hS.1.trans (bk.mono hS.1.size)) (hS.2.below bk hS.2.lt)
                  have hn6 : Held X7 X6.heap.size 37 #[.int .i64 0, .slice none 0 0, .slice none 0 0] := by rw [← hX7]; exact Held.new _ _ _
                  have hg6d : wd.heap.size ≤ X6.heap.size := hS.1.size
                  have hg6 : base ≤ X6.heap.size := by omega
                  rw [hX7]
                  clear bk hX7
                  refine hK'.out _ _ hSn (fun hS => ?_)
                  clear hK' K'
                  refine wpAnyH_ready (rs := [32]) (by kernel_rfl) (by simp) ?_
                  refine AllReadyH.cons rfl (fun K' hK' => ?_) AllReadyH.nil
                  go_simp
                  obtain ⟨X8, hX8⟩ : ∃ Y, X7.alloc (.cells #[.int .u64 ((m : Int)), .int .i64 (0), .string ⟨#[]⟩, .int .u64 (0), .int .i64 (S.energy), .string ⟨#[]⟩, .int .u64 (0), .int .i64 (S.cost), .string ⟨#[]⟩, .int .u64 (IntKind.u32.wrap S.intervals), .int .i64 (0), .string empS, .int .u64 (IntKind.u32.wrap S.flagged), .int .i64 (0), .string empS, .int .u64 (IntKind.u32.wrap S.suspects), .int .i64 (0), .string empS, .int .u64 (IntKind.u32.wrap S.replaced), .int .i64 (0), .string empS, .int .u64 (IntKind.u32.wrap S.corrected), .int .i64 (0), .string empS, .int .u64 (IntKind.u64.wrap S.last.start), .int .i64 (0), .string ⟨#[]⟩] 46) = Y := ⟨_, rfl⟩
                  have bk : Below X7.heap.size X7 X8 := by rw [← hX8]; exact (Below.refl _ _).alloc (Nat.le_refl _) _
                  have bw := bw.trans (bk.mono bw.size)
                  have h4c := h4c.below bk h4c.lt
                  have hn6 := hn6.below bk hn6.lt
                  have hPT := hPT.up bk
                  have hTY := hTY.up bk
                  have hSn := And.intro (hS.1.trans (bk.mono hS.1.size)) (hS.2.below bk hS.2.lt)
                  have hown : X8.ownsRow base 46 3 (.slice (some ⟨X7.heap.size, 0, none⟩) 9 9) 9 (valC (meterH m S)) := by rw [← hX8]; exact World.ownsRow_lit X7 #[.int .u64 ((m : Int)), .int .i64 (0), .string ⟨#[]⟩, .int .u64 (0), .int .i64 (S.energy), .string ⟨#[]⟩, .int .u64 (0), .int .i64 (S.cost), .string ⟨#[]⟩, .int .u64 (IntKind.u32.wrap S.intervals), .int .i64 (0), .string empS, .int .u64 (IntKind.u32.wrap S.flagged), .int .i64 (0), .string empS, .int .u64 (IntKind.u32.wrap S.suspects), .int .i64 (0), .string empS, .int .u64 (IntKind.u32.wrap S.replaced), .int .i64 (0), .string empS, .int .u64 (IntKind.u32.wrap S.corrected), .int .i64 (0), .string empS, .int .u64 (IntKind.u64.wrap S.last.start), .int .i64 (0), .string ⟨#[]⟩] 9 (by have := hS.1.size; omega) (by unfold maxLen; omega) rfl
                  have hgv : base ≤ X7.heap.size := by have := hS.1.size; omega
                  rw [hX8]
                  clear bk hX8
                  refine hK'.out _ _ hSn (fun hS => ?_)
                  clear hK' K'
                  refine wpAnyH_take (i := 33) (v := ?v33_28) rfl (by kernel_rfl) (by kernel_rfl) (by kernel_rfl) (fun _ _ _ h => h) (Or.inl ⟨by rfl, ?y33_28⟩) hS ?r33_28
                  case y33_28 =>
                    rintro W hH
                    go_simp
                    with_reducible rfl
                  simp only [Act.put]
                  try simp only [List.getElem_toArray, List.getElem_cons_succ, List.getElem_cons_zero]
                  try simp only [List.setIfInBounds_toArray, List.set_cons_succ, List.set_cons_zero]
                  refine wpAnyH_ready (rs := [35]) (by kernel_rfl) (by simp) ?_
                  refine AllReadyH.cons rfl (fun K' hK' => ?_) AllReadyH.nil
                  have hMI := MtrI.made h4c hn6 hown hPT hTY bw (by have := hS.1.size; omega) (by omega) hg6
                  have hcf := hn6.frozen
                  have hc0 := hn6.cell 0
                  have hc1 := hn6.cell 1
                  have hc2 := hn6.cell 2
                  have hl6 := hn6.lt
                  have hdz : wd.heap.size ≤ X8.heap.size := hS.1.size
                  have hg0 := (hS.2.lt)
                  have hgn : gd ≠ X6.heap.size := fun e => absurd (show (34 : Nat) = 37 from by have h1 := hS.2; rw [e] at h1; have := h1.symm.trans hn6; injection this with this; injection this) (by decide)
                  have hSn := And.intro (set3_below hS.1 (B := X6.heap.size) (by omega) (.int .i64 201) (.slice A2 17 c2) (.slice (some ⟨X7.heap.size, 0, none⟩) 9 9)) (((hS.2.far (p := ⟨X6.heap.size, 0, none⟩) hgn (.int .i64 201)).far (p := ⟨X6.heap.size, 1, none⟩) hgn (.slice A2 17 c2)).far (p := ⟨X6.heap.size, 2, none⟩) hgn (.slice (some ⟨X7.heap.size, 0, none⟩) 9 9))
                  go_simp
                  refine hK'.out _ _ hSn (fun hS => ?_)
                  clear hK' K'
                  refine wpAnyH_done (by kernel_rfl) ?_ _
                  go_wp2_with fail
                  go_meet
                  case rel => exact ⟨_, _, _, _, rfl, hMI⟩
              · skip
                go_simp
                obtain ⟨X6, hX6⟩ : ∃ Y, X5.alloc (.cells #[.int .i64 0, .slice none 0 0, .slice none 0 0] 37) = Y := ⟨_, rfl⟩
                have bk : Below X5.heap.size X5 X6 := by rw [← hX6]; exact (Below.refl _ _).alloc (Nat.le_refl _) _
                have bw := bw.trans (bk.mono bw.size)
                have h4c := h4c.below bk h4c.lt
                have hPT := hPT.up bk
                have hTY := hTY.up bk
                have hSn := And.intro (hS.1.trans (bk.mono hS.1.size)) (hS.2.below bk hS.2.lt)
                have hn6 : Held X6 X5.heap.size 37 #[.int .i64 0, .slice none 0 0, .slice none 0 0] := by rw [← hX6]; exact Held.new _ _ _
                have hg6d : wd.heap.size ≤ X5.heap.size := hS.1.size
                have hg6 : base ≤ X5.heap.size := by omega
                rw [hX6]
                clear bk hX6
                refine hK'.out _ _ hSn (fun hS => ?_)
                clear hK' K'
                refine wpAnyH_ready (rs := [26]) (by kernel_rfl) (by simp) ?_
                refine AllReadyH.cons rfl (fun K' hK' => ?_) AllReadyH.nil
                go_simp
                refine (L7.out _).mono ?_
                rintro e X7 ⟨rfl, bk⟩
                dsimp only
                have bw := bw.trans (bk.mono bw.size)
                have h4c := h4c.below bk h4c.lt
                have hn6 := hn6.below bk hn6.lt
                have hPT := hPT.up bk
                have hTY := hTY.up bk
                have hSn := And.intro (hS.1.trans (bk.mono hS.1.size)) (hS.2.below bk hS.2.lt)
                clear bk
                refine hK'.out _ _ hSn (fun hS => ?_)
                clear hK' K'
                refine wpAnyH_ready (rs := [32]) (by kernel_rfl) (by simp) ?_
                refine AllReadyH.cons rfl (fun K' hK' => ?_) AllReadyH.nil
                go_simp
                obtain ⟨X8, hX8⟩ : ∃ Y, X7.alloc (.cells #[.int .u64 ((m : Int)), .int .i64 (0), .string ⟨#[]⟩, .int .u64 (0), .int .i64 (S.energy), .string ⟨#[]⟩, .int .u64 (0), .int .i64 (S.cost), .string ⟨#[]⟩, .int .u64 (IntKind.u32.wrap S.intervals), .int .i64 (0), .string empS, .int .u64 (IntKind.u32.wrap S.flagged), .int .i64 (0), .string empS, .int .u64 (IntKind.u32.wrap S.suspects), .int .i64 (0), .string empS, .int .u64 (IntKind.u32.wrap S.replaced), .int .i64 (0), .string empS, .int .u64 (IntKind.u32.wrap S.corrected), .int .i64 (0), .string empS, .int .u64 (IntKind.u64.wrap S.last.start), .int .i64 (0), .string ⟨#[]⟩] 46) = Y := ⟨_, rfl⟩
                have bk : Below X7.heap.size X7 X8 := by rw [← hX8]; exact (Below.refl _ _).alloc (Nat.le_refl _) _
                have bw := bw.trans (bk.mono bw.size)
                have h4c := h4c.below bk h4c.lt
                have hn6 := hn6.below bk hn6.lt
                have hPT := hPT.up bk
                have hTY := hTY.up bk
                have hSn := And.intro (hS.1.trans (bk.mono hS.1.size)) (hS.2.below bk hS.2.lt)
                have hown : X8.ownsRow base 46 3 (.slice (some ⟨X7.heap.size, 0, none⟩) 9 9) 9 (valC (meterH m S)) := by rw [← hX8]; exact World.ownsRow_lit X7 #[.int .u64 ((m : Int)), .int .i64 (0), .string ⟨#[]⟩, .int .u64 (0), .int .i64 (S.energy), .string ⟨#[]⟩, .int .u64 (0), .int .i64 (S.cost), .string ⟨#[]⟩, .int .u64 (IntKind.u32.wrap S.intervals), .int .i64 (0), .string empS, .int .u64 (IntKind.u32.wrap S.flagged), .int .i64 (0), .string empS, .int .u64 (IntKind.u32.wrap S.suspects), .int .i64 (0), .string empS, .int .u64 (IntKind.u32.wrap S.replaced), .int .i64 (0), .string empS, .int .u64 (IntKind.u32.wrap S.corrected), .int .i64 (0), .string empS, .int .u64 (IntKind.u64.wrap S.last.start), .int .i64 (0), .string ⟨#[]⟩] 9 (by have := hS.1.size; omega) (by unfold maxLen; omega) rfl
                have hgv : base ≤ X7.heap.size := by have := hS.1.size; omega
                rw [hX8]
                clear bk hX8
                refine hK'.out _ _ hSn (fun hS => ?_)
                clear hK' K'
                refine wpAnyH_take (i := 33) (v := ?v33_29) rfl (by kernel_rfl) (by kernel_rfl) (by kernel_rfl) (fun _ _ _ h => h) (Or.inl ⟨by rfl, ?y33_29⟩) hS ?r33_29
                case y33_29 =>
                  rintro W hH
                  go_simp
                  with_reducible rfl
                simp only [Act.put]
                try simp only [List.getElem_toArray, List.getElem_cons_succ, List.getElem_cons_zero]
                try simp only [List.setIfInBounds_toArray, List.set_cons_succ, List.set_cons_zero]
                refine wpAnyH_ready (rs := [35]) (by kernel_rfl) (by simp) ?_
                refine AllReadyH.cons rfl (fun K' hK' => ?_) AllReadyH.nil
                have hMI := MtrI.made h4c hn6 hown hPT hTY bw (by have := hS.1.size; omega) (by omega) hg6
                have hcf := hn6.frozen
                have hc0 := hn6.cell 0
                have hc1 := hn6.cell 1
                have hc2 := hn6.cell 2
                have hl6 := hn6.lt
                have hdz : wd.heap.size ≤ X8.heap.size := hS.1.size
                have hg0 := (hS.2.lt)
                have hgn : gd ≠ X5.heap.size := fun e => absurd (show (34 : Nat) = 37 from by have h1 := hS.2; rw [e] at h1; have := h1.symm.trans hn6; injection this with this; injection this) (by decide)
                have hSn := And.intro (set3_below hS.1 (B := X5.heap.size) (by omega) (.int .i64 201) (.slice A2 17 c2) (.slice (some ⟨X7.heap.size, 0, none⟩) 9 9)) (((hS.2.far (p := ⟨X5.heap.size, 0, none⟩) hgn (.int .i64 201)).far (p := ⟨X5.heap.size, 1, none⟩) hgn (.slice A2 17 c2)).far (p := ⟨X5.heap.size, 2, none⟩) hgn (.slice (some ⟨X7.heap.size, 0, none⟩) 9 9))
                go_simp
                refine hK'.out _ _ hSn (fun hS => ?_)
                clear hK' K'
                refine wpAnyH_done (by kernel_rfl) ?_ _
                go_wp2_with fail
                go_meet
                case rel => exact ⟨_, _, _, _, rfl, hMI⟩
            · skip
              go_simp
              obtain ⟨X5, hX5⟩ : ∃ Y, X4.alloc (.cells #[.int .i64 0, .slice none 0 0, .slice none 0 0] 37) = Y := ⟨_, rfl⟩
              have bk : Below X4.heap.size X4 X5 := by rw [← hX5]; exact (Below.refl _ _).alloc (Nat.le_refl _) _
              have bw := bw.trans (bk.mono bw.size)
              have h4c := h4c.below bk h4c.lt
              have hPT := hPT.up bk
              have hTY := hTY.up bk
              have hSn := And.intro (hS.1.trans (bk.mono hS.1.size)) (hS.2.below bk hS.2.lt)
              have hn6 : Held X5 X4.heap.size 37 #[.int .i64 0, .slice none 0 0, .slice none 0 0] := by rw [← hX5]; exact Held.new _ _ _
              have hg6d : wd.heap.size ≤ X4.heap.size := hS.1.size
              have hg6 : base ≤ X4.heap.size := by omega
              rw [hX5]
              clear bk hX5
              refine hK'.out _ _ hSn (fun hS => ?_)
              clear hK' K'
              refine wpAnyH_ready (rs := [23]) (by kernel_rfl) (by simp) ?_
              refine AllReadyH.cons rfl (fun K' hK' => ?_) AllReadyH.nil
              go_simp
              refine (L6.out _).mono ?_
              rintro e X6 ⟨rfl, bk⟩
              dsimp only
              have bw := bw.trans (bk.mono bw.size)
              have h4c := h4c.below bk h4c.lt
              have hn6 := hn6.below bk hn6.lt
              have hPT := hPT.up bk
              have hTY := hTY.up bk
              have hSn := And.intro (hS.1.trans (bk.mono hS.1.size)) (hS.2.below bk hS.2.lt)
              clear bk
              refine hK'.out _ _ hSn (fun hS => ?_)
              clear hK' K'
              refine wpAnyH_ready (rs := [26]) (by kernel_rfl) (by simp) ?_
              refine AllReadyH.cons rfl (fun K' hK' => ?_) AllReadyH.nil
              go_simp
              refine (L7.out _).mono ?_
              rintro e X7 ⟨rfl, bk⟩
              dsimp only
              have bw := bw.trans (bk.mono bw.size)
              have h4c := h4c.below bk h4c.lt
              have hn6 := hn6.below bk hn6.lt
              have hPT := hPT.up bk
              have hTY := hTY.up bk
              have hSn := And.intro (hS.1.trans (bk.mono hS.1.size)) (hS.2.below bk hS.2.lt)
              clear bk
              refine hK'.out _ _ hSn (fun hS => ?_)
              clear hK' K'
              refine wpAnyH_ready (rs := [32]) (by kernel_rfl) (by simp) ?_
              refine AllReadyH.cons rfl (fun K' hK' => ?_) AllReadyH.nil
              go_simp
              obtain ⟨X8, hX8⟩ : ∃ Y, X7.alloc (.cells #[.int .u64 ((m : Int)), .int .i64 (0), .string ⟨#[]⟩, .int .u64 (0), .int .i64 (S.energy), .string ⟨#[]⟩, .int .u64 (0), .int .i64 (S.cost), .string ⟨#[]⟩, .int .u64 (IntKind.u32.wrap S.intervals), .int .i64 (0), .string empS, .int .u64 (IntKind.u32.wrap S.flagged), .int .i64 (0), .string empS, .int .u64 (IntKind.u32.wrap S.suspects), .int .i64 (0), .string empS, .int .u64 (IntKind.u32.wrap S.replaced), .int .i64 (0), .string empS, .int .u64 (IntKind.u32.wrap S.corrected), .int .i64 (0), .string empS, .int .u64 (IntKind.u64.wrap S.last.start), .int .i64 (0), .string ⟨#[]⟩] 46) = Y := ⟨_, rfl⟩
              have bk : Below X7.heap.size X7 X8 := by rw [← hX8]; exact (Below.refl _ _).alloc (Nat.le_refl _) _
              have bw := bw.trans (bk.mono bw.size)
              have h4c := h4c.below bk h4c.lt
              have hn6 := hn6.below bk hn6.lt
              have hPT := hPT.up bk
              have hTY := hTY.up bk
              have hSn := And.intro (hS.1.trans (bk.mono hS.1.size)) (hS.2.below bk hS.2.lt)
              have hown : X8.ownsRow base 46 3 (.slice (some ⟨X7.heap.size, 0, none⟩) 9 9) 9 (valC (meterH m S)) := by rw [← hX8]; exact World.ownsRow_lit X7 #[.int .u64 ((m : Int)), .int .i64 (0), .string ⟨#[]⟩, .int .u64 (0), .int .i64 (S.energy), .string ⟨#[]⟩, .int .u64 (0), .int .i64 (S.cost), .string ⟨#[]⟩, .int .u64 (IntKind.u32.wrap S.intervals), .int .i64 (0), .string empS, .int .u64 (IntKind.u32.wrap S.flagged), .int .i64 (0), .string empS, .int .u64 (IntKind.u32.wrap S.suspects), .int .i64 (0), .string empS, .int .u64 (IntKind.u32.wrap S.replaced), .int .i64 (0), .string empS, .int .u64 (IntKind.u32.wrap S.corrected), .int .i64 (0), .string empS, .int .u64 (IntKind.u64.wrap S.last.start), .int .i64 (0), .string ⟨#[]⟩] 9 (by have := hS.1.size; omega) (by unfold maxLen; omega) rfl
              have hgv : base ≤ X7.heap.size := by have := hS.1.size; omega
              rw [hX8]
              clear bk hX8
              refine hK'.out _ _ hSn (fun hS => ?_)
              clear hK' K'
              refine wpAnyH_take (i := 33) (v := ?v33_30) rfl (by kernel_rfl) (by kernel_rfl) (by kernel_rfl) (fun _ _ _ h => h) (Or.inl ⟨by rfl, ?y33_30⟩) hS ?r33_30
              case y33_30 =>
                rintro W hH
                go_simp
                with_reducible rfl
              simp only [Act.put]
              try simp only [List.getElem_toArray, List.getElem_cons_succ, List.getElem_cons_zero]
              try simp only [List.setIfInBounds_toArray, List.set_cons_succ, List.set_cons_zero]
              refine wpAnyH_ready (rs := [35]) (by kernel_rfl) (by simp) ?_
              refine AllReadyH.cons rfl (fun K' hK' => ?_) AllReadyH.nil
              have hMI := MtrI.made h4c hn6 hown hPT hTY bw (by have := hS.1.size; omega) (by omega) hg6
              have hcf := hn6.frozen
              have hc0 := hn6.cell 0
              have hc1 := hn6.cell 1
              have hc2 := hn6.cell 2
              have hl6 := hn6.lt
              have hdz : wd.heap.size ≤ X8.heap.size := hS.1.size
              have hg0 := (hS.2.lt)
              have hgn : gd ≠ X4.heap.size := fun e => absurd (show (34 : Nat) = 37 from by have h1 := hS.2; rw [e] at h1; have := h1.symm.trans hn6; injection this with this; injection this) (by decide)
              have hSn := And.intro (set3_below hS.1 (B := X4.heap.size) (by omega) (.int .i64 201) (.slice A2 17 c2) (.slice (some ⟨X7.heap.size, 0, none⟩) 9 9)) (((hS.2.far (p := ⟨X4.heap.size, 0, none⟩) hgn (.int .i64 201)).far (p := ⟨X4.heap.size, 1, none⟩) hgn (.slice A2 17 c2)).far (p := ⟨X4.heap.size, 2, none⟩) hgn (.slice (some ⟨X7.heap.size, 0, none⟩) 9 9))
              go_simp
              refine hK'.out _ _ hSn (fun hS => ?_)
              clear hK' K'
              refine wpAnyH_done (by kernel_rfl) ?_ _
              go_wp2_with fail
              go_meet
              case rel => exact ⟨_, _, _, _, rfl, hMI⟩
          · skip
            go_simp
            obtain ⟨X4, hX4⟩ : ∃ Y, X3.alloc (.cells #[.int .i64 0, .slice none 0 0, .slice none 0 0] 37) = Y := ⟨_, rfl⟩
            have bk : Below X3.heap.size X3 X4 := by rw [← hX4]; exact (Below.refl _ _).alloc (Nat.le_refl _) _
            have bw := bw.trans (bk.mono bw.size)
            have h4c := h4c.below bk h4c.lt
            have hPT := hPT.up bk
            have hTY := hTY.up bk
            have hSn := And.intro (hS.1.trans (bk.mono hS.1.size)) (hS.2.below bk hS.2.lt)
            have hn6 : Held X4 X3.heap.size 37 #[.int .i64 0, .slice none 0 0, .slice none 0 0] := by rw [← hX4]; exact Held.new _ _ _
            have hg6d : wd.heap.size ≤ X3.heap.size := hS.1.size
            have hg6 : base ≤ X3.heap.size := by omega
            rw [hX4]
            clear bk hX4
            refine hK'.out _ _ hSn (fun hS => ?_)
            clear hK' K'
            refine wpAnyH_ready (rs := [20]) (by kernel_rfl) (by simp) ?_
            refine AllReadyH.cons rfl (fun K' hK' => ?_) AllReadyH.nil
            go_simp
            refine (L5.out _).mono ?_
            rintro e X5 ⟨rfl, bk⟩
            dsimp only
            have bw := bw.trans (bk.mono bw.size)
            have h4c := h4c.below bk h4c.lt
            have hn6 := hn6.below bk hn6.lt
            have hPT := hPT.up bk
            have hTY := hTY.up bk
            have hSn := And.intro (hS.1.trans (bk.mono hS.1.size)) (hS.2.below bk hS.2.lt)
            clear bk
            refine hK'.out _ _ hSn (fun hS => ?_)
            clear hK' K'
            refine wpAnyH_ready (rs := [23]) (by kernel_rfl) (by simp) ?_
            refine AllReadyH.cons rfl (fun K' hK' => ?_) AllReadyH.nil
            go_simp
            refine (L6.out _).mono ?_
            rintro e X6 ⟨rfl, bk⟩
            dsimp only
            have bw := bw.trans (bk.mono bw.size)
            have h4c := h4c.below bk h4c.lt
            have hn6 := hn6.below bk hn6.lt
            have hPT := hPT.up bk
            have hTY := hTY.up bk
            have hSn := And.intro (hS.1.trans (bk.mono hS.1.size)) (hS.2.below bk hS.2.lt)
            clear bk
            refine hK'.out _ _ hSn (fun hS => ?_)
            clear hK' K'
            refine wpAnyH_ready (rs := [26]) (by kernel_rfl) (by simp) ?_
            refine AllReadyH.cons rfl (fun K' hK' => ?_) AllReadyH.nil
            go_simp
            refine (L7.out _).mono ?_
            rintro e X7 ⟨rfl, bk⟩
            dsimp only
            have bw := bw.trans (bk.mono bw.size)
            have h4c := h4c.below bk h4c.lt
            have hn6 := hn6.below bk hn6.lt
            have hPT := hPT.up bk
            have hTY := hTY.up bk
            have hSn := And.intro (hS.1.trans (bk.mono hS.1.size)) (hS.2.below bk hS.2.lt)
            clear bk
            refine hK'.out _ _ hSn (fun hS => ?_)
            clear hK' K'
            refine wpAnyH_ready (rs := [32]) (by kernel_rfl) (by simp) ?_
            refine AllReadyH.cons rfl (fun K' hK' => ?_) AllReadyH.nil
            go_simp
            obtain ⟨X8, hX8⟩ : ∃ Y, X7.alloc (.cells #[.int .u64 ((m : Int)), .int .i64 (0), .string ⟨#[]⟩, .int .u64 (0), .int .i64 (S.energy), .string ⟨#[]⟩, .int .u64 (0), .int .i64 (S.cost), .string ⟨#[]⟩, .int .u64 (IntKind.u32.wrap S.intervals), .int .i64 (0), .string empS, .int .u64 (IntKind.u32.wrap S.flagged), .int .i64 (0), .string empS, .int .u64 (IntKind.u32.wrap S.suspects), .int .i64 (0), .string empS, .int .u64 (IntKind.u32.wrap S.replaced), .int .i64 (0), .string empS, .int .u64 (IntKind.u32.wrap S.corrected), .int .i64 (0), .string empS, .int .u64 (IntKind.u64.wrap S.last.start), .int .i64 (0), .string ⟨#[]⟩] 46) = Y := ⟨_, rfl⟩
            have bk : Below X7.heap.size X7 X8 := by rw [← hX8]; exact (Below.refl _ _).alloc (Nat.le_refl _) _
            have bw := bw.trans (bk.mono bw.size)
            have h4c := h4c.below bk h4c.lt
            have hn6 := hn6.below bk hn6.lt
            have hPT := hPT.up bk
            have hTY := hTY.up bk
            have hSn := And.intro (hS.1.trans (bk.mono hS.1.size)) (hS.2.below bk hS.2.lt)
            have hown : X8.ownsRow base 46 3 (.slice (some ⟨X7.heap.size, 0, none⟩) 9 9) 9 (valC (meterH m S)) := by rw [← hX8]; exact World.ownsRow_lit X7 #[.int .u64 ((m : Int)), .int .i64 (0), .string ⟨#[]⟩, .int .u64 (0), .int .i64 (S.energy), .string ⟨#[]⟩, .int .u64 (0), .int .i64 (S.cost), .string ⟨#[]⟩, .int .u64 (IntKind.u32.wrap S.intervals), .int .i64 (0), .string empS, .int .u64 (IntKind.u32.wrap S.flagged), .int .i64 (0), .string empS, .int .u64 (IntKind.u32.wrap S.suspects), .int .i64 (0), .string empS, .int .u64 (IntKind.u32.wrap S.replaced), .int .i64 (0), .string empS, .int .u64 (IntKind.u32.wrap S.corrected), .int .i64 (0), .string empS, .int .u64 (IntKind.u64.wrap S.last.start), .int .i64 (0), .string ⟨#[]⟩] 9 (by have := hS.1.size; omega) (by unfold maxLen; omega) rfl
            have hgv : base ≤ X7.heap.size := by have := hS.1.size; omega
            rw [hX8]
            clear bk hX8
            refine hK'.out _ _ hSn (fun hS => ?_)
            clear hK' K'
            refine wpAnyH_take (i := 33) (v := ?v33_31) rfl (by kernel_rfl) (by kernel_rfl) (by kernel_rfl) (fun _ _ _ h => h) (Or.inl ⟨by rfl, ?y33_31⟩) hS ?r33_31
            case y33_31 =>
              rintro W hH
              go_simp
              with_reducible rfl
            simp only [Act.put]
            try simp only [List.getElem_toArray, List.getElem_cons_succ, List.getElem_cons_zero]
            try simp only [List.setIfInBounds_toArray, List.set_cons_succ, List.set_cons_zero]
            refine wpAnyH_ready (rs := [35]) (by kernel_rfl) (by simp) ?_
            refine AllReadyH.cons rfl (fun K' hK' => ?_) AllReadyH.nil
            have hMI := MtrI.made h4c hn6 hown hPT hTY bw (by have := hS.1.size; omega) (by omega) hg6
            have hcf := hn6.frozen
            have hc0 := hn6.cell 0
            have hc1 := hn6.cell 1
            have hc2 := hn6.cell 2
            have hl6 := hn6.lt
            have hdz : wd.heap.size ≤ X8.heap.size := hS.1.size
            have hg0 := (hS.2.lt)
            have hgn : gd ≠ X3.heap.size := fun e => absurd (show (34 : Nat) = 37 from by have h1 := hS.2; rw [e] at h1; have := h1.symm.trans hn6; injection this with this; injection this) (by decide)
            have hSn := And.intro (set3_below hS.1 (B := X3.heap.size) (by omega) (.int .i64 201) (.slice A2 17 c2) (.slice (some ⟨X7.heap.size, 0, none⟩) 9 9)) (((hS.2.far (p := ⟨X3.heap.size, 0, none⟩) hgn (.int .i64 201)).far (p := ⟨X3.heap.size, 1, none⟩) hgn (.slice A2 17 c2)).far (p := ⟨X3.heap.size, 2, none⟩) hgn (.slice (some ⟨X7.heap.size, 0, none⟩) 9 9))
            go_simp
            refine hK'.out _ _ hSn (fun hS => ?_)
            clear hK' K'
            refine wpAnyH_done (by kernel_rfl) ?_ _
            go_wp2_with fail
            go_meet
            case rel => exact ⟨_, _, _, _, rfl, hMI⟩
        · skip
          go_simp
          obtain ⟨X3, hX3⟩ : ∃ Y, X2.alloc (.cells #[.int .i64 0, .slice none 0 0, .slice none 0 0] 37) = Y := ⟨_, rfl⟩
          have bk : Below X2.heap.size X2 X3 := by rw [← hX3]; exact (Below.refl _ _).alloc (Nat.le_refl _) _
          have bw := bw.trans (bk.mono bw.size)
          have h4c := h4c.below bk h4c.lt
          have hPT := hPT.up bk
          have hTY := hTY.up bk
          have hSn := And.intro (hS.1.trans (bk.mono hS.1.size)) (hS.2.below bk hS.2.lt)
          have hn6 : Held X3 X2.heap.size 37 #[.int .i64 0, .slice none 0 0, .slice none 0 0] := by rw [← hX3]; exact Held.new _ _ _
          have hg6d : wd.heap.size ≤ X2.heap.size := hS.1.size
          have hg6 : base ≤ X2.heap.size := by omega
          rw [hX3]
          clear bk hX3
          refine hK'.out _ _ hSn (fun hS => ?_)
          clear hK' K'
          refine wpAnyH_ready (rs := [17]) (by kernel_rfl) (by simp) ?_
          refine AllReadyH.cons rfl (fun K' hK' => ?_) AllReadyH.nil
          go_simp
          refine (L4.out _).mono ?_
          rintro e X4 ⟨rfl, bk⟩
          dsimp only
          have bw := bw.trans (bk.mono bw.size)
          have h4c := h4c.below bk h4c.lt
          have hn6 := hn6.below bk hn6.lt
          have hPT := hPT.up bk
          have hTY := hTY.up bk
          have hSn := And.intro (hS.1.trans (bk.mono hS.1.size)) (hS.2.below bk hS.2.lt)
          clear bk
          refine hK'.out _ _ hSn (fun hS => ?_)
          clear hK' K'
          refine wpAnyH_ready (rs := [20]) (by kernel_rfl) (by simp) ?_
          refine AllReadyH.cons rfl (fun K' hK' => ?_) AllReadyH.nil
          go_simp
          refine (L5.out _).mono ?_
          rintro e X5 ⟨rfl, bk⟩
          dsimp only
          have bw := bw.trans (bk.mono bw.size)
          have h4c := h4c.below bk h4c.lt
          have hn6 := hn6.below bk hn6.lt
          have hPT := hPT.up bk
          have hTY := hTY.up bk
          have hSn := And.intro (hS.1.trans (bk.mono hS.1.size)) (hS.2.below bk hS.2.lt)
          clear bk
          refine hK'.out _ _ hSn (fun hS => ?_)
          clear hK' K'
          refine wpAnyH_ready (rs := [23]) (by kernel_rfl) (by simp) ?_
          refine AllReadyH.cons rfl (fun K' hK' => ?_) AllReadyH.nil
          go_simp
          refine (L6.out _).mono ?_
          rintro e X6 ⟨rfl, bk⟩
          dsimp only
          have bw := bw.trans (bk.mono bw.size)
          have h4c := h4c.below bk h4c.lt
          have hn6 := hn6.below bk hn6.lt
          have hPT := hPT.up bk
          have hTY := hTY.up bk
          have hSn := And.intro (hS.1.trans (bk.mono hS.1.size)) (hS.2.below bk hS.2.lt)
          clear bk
          refine hK'.out _ _ hSn (fun hS => ?_)
          clear hK' K'
          refine wpAnyH_ready (rs := [26]) (by kernel_rfl) (by simp) ?_
          refine AllReadyH.cons rfl (fun K' hK' => ?_) AllReadyH.nil
          go_simp
          refine (L7.out _).mono ?_
          rintro e X7 ⟨rfl, bk⟩
          dsimp only
          have bw := bw.trans (bk.mono bw.size)
          have h4c := h4c.below bk h4c.lt
          have hn6 := hn6.below bk hn6.lt
          have hPT := hPT.up bk
          have hTY := hTY.up bk
          have hSn := And.intro (hS.1.trans (bk.mono hS.1.size)) (hS.2.below bk hS.2.lt)
          clear bk
          refine hK'.out _ _ hSn (fun hS => ?_)
          clear hK' K'
          refine wpAnyH_ready (rs := [32]) (by kernel_rfl) (by simp) ?_
          refine AllReadyH.cons rfl (fun K' hK' => ?_) AllReadyH.nil
          go_simp
          obtain ⟨X8, hX8⟩ : ∃ Y, X7.alloc (.cells #[.int .u64 ((m : Int)), .int .i64 (0), .string ⟨#[]⟩, .int .u64 (0), .int .i64 (S.energy), .string ⟨#[]⟩, .int .u64 (0), .int .i64 (S.cost), .string ⟨#[]⟩, .int .u64 (IntKind.u32.wrap S.intervals), .int .i64 (0), .string empS, .int .u64 (IntKind.u32.wrap S.flagged), .int .i64 (0), .string empS, .int .u64 (IntKind.u32.wrap S.suspects), .int .i64 (0), .string empS, .int .u64 (IntKind.u32.wrap S.replaced), .int .i64 (0), .string empS, .int .u64 (IntKind.u32.wrap S.corrected), .int .i64 (0), .string empS, .int .u64 (IntKind.u64.wrap S.last.start), .int .i64 (0), .string ⟨#[]⟩] 46) = Y := ⟨_, rfl⟩
          have bk : Below X7.heap.size X7 X8 := by rw [← hX8]; exact (Below.refl _ _).alloc (Nat.le_refl _) _
          have bw := bw.trans (bk.mono bw.size)
          have h4c := h4c.below bk h4c.lt
          have hn6 := hn6.below bk hn6.lt
          have hPT := hPT.up bk
          have hTY := hTY.up bk
          have hSn := And.intro (hS.1.trans (bk.mono hS.1.size)) (hS.2.below bk hS.2.lt)
          have hown : X8.ownsRow base 46 3 (.slice (some ⟨X7.heap.size, 0, none⟩) 9 9) 9 (valC (meterH m S)) := by rw [← hX8]; exact World.ownsRow_lit X7 #[.int .u64 ((m : Int)), .int .i64 (0), .string ⟨#[]⟩, .int .u64 (0), .int .i64 (S.energy), .string ⟨#[]⟩, .int .u64 (0), .int .i64 (S.cost), .string ⟨#[]⟩, .int .u64 (IntKind.u32.wrap S.intervals), .int .i64 (0), .string empS, .int .u64 (IntKind.u32.wrap S.flagged), .int .i64 (0), .string empS, .int .u64 (IntKind.u32.wrap S.suspects), .int .i64 (0), .string empS, .int .u64 (IntKind.u32.wrap S.replaced), .int .i64 (0), .string empS, .int .u64 (IntKind.u32.wrap S.corrected), .int .i64 (0), .string empS, .int .u64 (IntKind.u64.wrap S.last.start), .int .i64 (0), .string ⟨#[]⟩] 9 (by have := hS.1.size; omega) (by unfold maxLen; omega) rfl
          have hgv : base ≤ X7.heap.size := by have := hS.1.size; omega
          rw [hX8]
          clear bk hX8
          refine hK'.out _ _ hSn (fun hS => ?_)
          clear hK' K'
          refine wpAnyH_take (i := 33) (v := ?v33_32) rfl (by kernel_rfl) (by kernel_rfl) (by kernel_rfl) (fun _ _ _ h => h) (Or.inl ⟨by rfl, ?y33_32⟩) hS ?r33_32
          case y33_32 =>
            rintro W hH
            go_simp
            with_reducible rfl
          simp only [Act.put]
          try simp only [List.getElem_toArray, List.getElem_cons_succ, List.getElem_cons_zero]
          try simp only [List.setIfInBounds_toArray, List.set_cons_succ, List.set_cons_zero]
          refine wpAnyH_ready (rs := [35]) (by kernel_rfl) (by simp) ?_
          refine AllReadyH.cons rfl (fun K' hK' => ?_) AllReadyH.nil
          have hMI := MtrI.made h4c hn6 hown hPT hTY bw (by have := hS.1.size; omega) (by omega) hg6
          have hcf := hn6.frozen
          have hc0 := hn6.cell 0
          have hc1 := hn6.cell 1
          have hc2 := hn6.cell 2
          have hl6 := hn6.lt
          have hdz : wd.heap.size ≤ X8.heap.size := hS.1.size
          have hg0 := (hS.2.lt)
          have hgn : gd ≠ X2.heap.size := fun e => absurd (show (34 : Nat) = 37 from by have h1 := hS.2; rw [e] at h1; have := h1.symm.trans hn6; injection this with this; injection this) (by decide)
          have hSn := And.intro (set3_below hS.1 (B := X2.heap.size) (by omega) (.int .i64 201) (.slice A2 17 c2) (.slice (some ⟨X7.heap.size, 0, none⟩) 9 9)) (((hS.2.far (p := ⟨X2.heap.size, 0, none⟩) hgn (.int .i64 201)).far (p := ⟨X2.heap.size, 1, none⟩) hgn (.slice A2 17 c2)).far (p := ⟨X2.heap.size, 2, none⟩) hgn (.slice (some ⟨X7.heap.size, 0, none⟩) 9 9))
          go_simp
          refine hK'.out _ _ hSn (fun hS => ?_)
          clear hK' K'
          refine wpAnyH_done (by kernel_rfl) ?_ _
          go_wp2_with fail
          go_meet
          case rel => exact ⟨_, _, _, _, rfl, hMI⟩
      · skip
        go_simp
        obtain ⟨X2, hX2⟩ : ∃ Y, X1.alloc (.cells #[.int .i64 0, .slice none 0 0, .slice none 0 0] 37) = Y := ⟨_, rfl⟩
        have bk : Below X1.heap.size X1 X2 := by rw [← hX2]; exact (Below.refl _ _).alloc (Nat.le_refl _) _
        have bw := bw.trans (bk.mono bw.size)
        have h4c := h4c.below bk h4c.lt
        have hPT := hPT.up bk
        have hTY := hTY.up bk
        have hSn := And.intro (hS.1.trans (bk.mono hS.1.size)) (hS.2.below bk hS.2.lt)
        have hn6 : Held X2 X1.heap.size 37 #[.int .i64 0, .slice none 0 0, .slice none 0 0] := by rw [← hX2]; exact Held.new _ _ _
        have hg6d : wd.heap.size ≤ X1.heap.size := hS.1.size
        have hg6 : base ≤ X1.heap.size := by omega
        rw [hX2]
        clear bk hX2
        refine hK'.out _ _ hSn (fun hS => ?_)
        clear hK' K'
        refine wpAnyH_ready (rs := [14]) (by kernel_rfl) (by simp) ?_
        refine AllReadyH.cons rfl (fun K' hK' => ?_) AllReadyH.nil
        go_simp
        refine (L3.out _).mono ?_
        rintro e X3 ⟨rfl, bk⟩
        dsimp only
        have bw := bw.trans (bk.mono bw.size)
        have h4c := h4c.below bk h4c.lt
        have hn6 := hn6.below bk hn6.lt
        have hPT := hPT.up bk
        have hTY := hTY.up bk
        have hSn := And.intro (hS.1.trans (bk.mono hS.1.size)) (hS.2.below bk hS.2.lt)
        clear bk
        refine hK'.out _ _ hSn (fun hS => ?_)
        clear hK' K'
        refine wpAnyH_ready (rs := [17]) (by kernel_rfl) (by simp) ?_
        refine AllReadyH.cons rfl (fun K' hK' => ?_) AllReadyH.nil
        go_simp
        refine (L4.out _).mono ?_
        rintro e X4 ⟨rfl, bk⟩
        dsimp only
        have bw := bw.trans (bk.mono bw.size)
        have h4c := h4c.below bk h4c.lt
        have hn6 := hn6.below bk hn6.lt
        have hPT := hPT.up bk
        have hTY := hTY.up bk
        have hSn := And.intro (hS.1.trans (bk.mono hS.1.size)) (hS.2.below bk hS.2.lt)
        clear bk
        refine hK'.out _ _ hSn (fun hS => ?_)
        clear hK' K'
        refine wpAnyH_ready (rs := [20]) (by kernel_rfl) (by simp) ?_
        refine AllReadyH.cons rfl (fun K' hK' => ?_) AllReadyH.nil
        go_simp
        refine (L5.out _).mono ?_
        rintro e X5 ⟨rfl, bk⟩
        dsimp only
        have bw := bw.trans (bk.mono bw.size)
        have h4c := h4c.below bk h4c.lt
        have hn6 := hn6.below bk hn6.lt
        have hPT := hPT.up bk
        have hTY := hTY.up bk
        have hSn := And.intro (hS.1.trans (bk.mono hS.1.size)) (hS.2.below bk hS.2.lt)
        clear bk
        refine hK'.out _ _ hSn (fun hS => ?_)
        clear hK' K'
        refine wpAnyH_ready (rs := [23]) (by kernel_rfl) (by simp) ?_
        refine AllReadyH.cons rfl (fun K' hK' => ?_) AllReadyH.nil
        go_simp
        refine (L6.out _).mono ?_
        rintro e X6 ⟨rfl, bk⟩
        dsimp only
        have bw := bw.trans (bk.mono bw.size)
        have h4c := h4c.below bk h4c.lt
        have hn6 := hn6.below bk hn6.lt
        have hPT := hPT.up bk
        have hTY := hTY.up bk
        have hSn := And.intro (hS.1.trans (bk.mono hS.1.size)) (hS.2.below bk hS.2.lt)
        clear bk
        refine hK'.out _ _ hSn (fun hS => ?_)
        clear hK' K'
        refine wpAnyH_ready (rs := [26]) (by kernel_rfl) (by simp) ?_
        refine AllReadyH.cons rfl (fun K' hK' => ?_) AllReadyH.nil
        go_simp
        refine (L7.out _).mono ?_
        rintro e X7 ⟨rfl, bk⟩
        dsimp only
        have bw := bw.trans (bk.mono bw.size)
        have h4c := h4c.below bk h4c.lt
        have hn6 := hn6.below bk hn6.lt
        have hPT := hPT.up bk
        have hTY := hTY.up bk
        have hSn := And.intro (hS.1.trans (bk.mono hS.1.size)) (hS.2.below bk hS.2.lt)
        clear bk
        refine hK'.out _ _ hSn (fun hS => ?_)
        clear hK' K'
        refine wpAnyH_ready (rs := [32]) (by kernel_rfl) (by simp) ?_
        refine AllReadyH.cons rfl (fun K' hK' => ?_) AllReadyH.nil
        go_simp
        obtain ⟨X8, hX8⟩ : ∃ Y, X7.alloc (.cells #[.int .u64 ((m : Int)), .int .i64 (0), .string ⟨#[]⟩, .int .u64 (0), .int .i64 (S.energy), .string ⟨#[]⟩, .int .u64 (0), .int .i64 (S.cost), .string ⟨#[]⟩, .int .u64 (IntKind.u32.wrap S.intervals), .int .i64 (0), .string empS, .int .u64 (IntKind.u32.wrap S.flagged), .int .i64 (0), .string empS, .int .u64 (IntKind.u32.wrap S.suspects), .int .i64 (0), .string empS, .int .u64 (IntKind.u32.wrap S.replaced), .int .i64 (0), .string empS, .int .u64 (IntKind.u32.wrap S.corrected), .int .i64 (0), .string empS, .int .u64 (IntKind.u64.wrap S.last.start), .int .i64 (0), .string ⟨#[]⟩] 46) = Y := ⟨_, rfl⟩
        have bk : Below X7.heap.size X7 X8 := by rw [← hX8]; exact (Below.refl _ _).alloc (Nat.le_refl _) _
        have bw := bw.trans (bk.mono bw.size)
        have h4c := h4c.below bk h4c.lt
        have hn6 := hn6.below bk hn6.lt
        have hPT := hPT.up bk
        have hTY := hTY.up bk
        have hSn := And.intro (hS.1.trans (bk.mono hS.1.size)) (hS.2.below bk hS.2.lt)
        have hown : X8.ownsRow base 46 3 (.slice (some ⟨X7.heap.size, 0, none⟩) 9 9) 9 (valC (meterH m S)) := by rw [← hX8]; exact World.ownsRow_lit X7 #[.int .u64 ((m : Int)), .int .i64 (0), .string ⟨#[]⟩, .int .u64 (0), .int .i64 (S.energy), .string ⟨#[]⟩, .int .u64 (0), .int .i64 (S.cost), .string ⟨#[]⟩, .int .u64 (IntKind.u32.wrap S.intervals), .int .i64 (0), .string empS, .int .u64 (IntKind.u32.wrap S.flagged), .int .i64 (0), .string empS, .int .u64 (IntKind.u32.wrap S.suspects), .int .i64 (0), .string empS, .int .u64 (IntKind.u32.wrap S.replaced), .int .i64 (0), .string empS, .int .u64 (IntKind.u32.wrap S.corrected), .int .i64 (0), .string empS, .int .u64 (IntKind.u64.wrap S.last.start), .int .i64 (0), .string ⟨#[]⟩] 9 (by have := hS.1.size; omega) (by unfold maxLen; omega) rfl
        have hgv : base ≤ X7.heap.size := by have := hS.1.size; omega
        rw [hX8]
        clear bk hX8
        refine hK'.out _ _ hSn (fun hS => ?_)
        clear hK' K'
        refine wpAnyH_take (i := 33) (v := ?v33_33) rfl (by kernel_rfl) (by kernel_rfl) (by kernel_rfl) (fun _ _ _ h => h) (Or.inl ⟨by rfl, ?y33_33⟩) hS ?r33_33
        case y33_33 =>
          rintro W hH
          go_simp
          with_reducible rfl
        simp only [Act.put]
        try simp only [List.getElem_toArray, List.getElem_cons_succ, List.getElem_cons_zero]
        try simp only [List.setIfInBounds_toArray, List.set_cons_succ, List.set_cons_zero]
        refine wpAnyH_ready (rs := [35]) (by kernel_rfl) (by simp) ?_
        refine AllReadyH.cons rfl (fun K' hK' => ?_) AllReadyH.nil
        have hMI := MtrI.made h4c hn6 hown hPT hTY bw (by have := hS.1.size; omega) (by omega) hg6
        have hcf := hn6.frozen
        have hc0 := hn6.cell 0
        have hc1 := hn6.cell 1
        have hc2 := hn6.cell 2
        have hl6 := hn6.lt
        have hdz : wd.heap.size ≤ X8.heap.size := hS.1.size
        have hg0 := (hS.2.lt)
        have hgn : gd ≠ X1.heap.size := fun e => absurd (show (34 : Nat) = 37 from by have h1 := hS.2; rw [e] at h1; have := h1.symm.trans hn6; injection this with this; injection this) (by decide)
        have hSn := And.intro (set3_below hS.1 (B := X1.heap.size) (by omega) (.int .i64 201) (.slice A2 17 c2) (.slice (some ⟨X7.heap.size, 0, none⟩) 9 9)) (((hS.2.far (p := ⟨X1.heap.size, 0, none⟩) hgn (.int .i64 201)).far (p := ⟨X1.heap.size, 1, none⟩) hgn (.slice A2 17 c2)).far (p := ⟨X1.heap.size, 2, none⟩) hgn (.slice (some ⟨X7.heap.size, 0, none⟩) 9 9))
        go_simp
        refine hK'.out _ _ hSn (fun hS => ?_)
        clear hK' K'
        refine wpAnyH_done (by kernel_rfl) ?_ _
        go_wp2_with fail
        go_meet
        case rel => exact ⟨_, _, _, _, rfl, hMI⟩
    · skip
      go_simp
      obtain ⟨X1, hX1⟩ : ∃ Y, wd.alloc (.cells #[.int .i64 0, .slice none 0 0, .slice none 0 0] 37) = Y := ⟨_, rfl⟩
      have bk : Below wd.heap.size wd X1 := by rw [← hX1]; exact (Below.refl _ _).alloc (Nat.le_refl _) _
      have bw := bw.trans (bk.mono bw.size)
      have h4c := h4c.below bk h4c.lt
      have hSn := hS.trans (bk.mono hS.size)
      have hn6 : Held X1 wd.heap.size 37 #[.int .i64 0, .slice none 0 0, .slice none 0 0] := by rw [← hX1]; exact Held.new _ _ _
      have hg6d : wd.heap.size ≤ wd.heap.size := hS.size
      have hg6 : base ≤ wd.heap.size := by omega
      rw [hX1]
      clear bk hX1
      refine hK'.out _ _ hSn (fun hS => ?_)
      clear hK' K'
      refine wpAnyH_ready (rs := [0]) (by kernel_rfl) (by simp) ?_
      refine AllReadyH.cons rfl (fun K' hK' => ?_) AllReadyH.nil
      go_simp
      refine (HDF.out X1 bw).mono ?_
      rintro e X2 ⟨gd, g1, A2, c2, rfl, hgd, hDd, hP5, hPT, hTY, _, bk⟩
      dsimp only
      have bw := bw.trans (bk.mono bw.size)
      have h4c := h4c.below bk h4c.lt
      have hn6 := hn6.below bk hn6.lt
      have hSn := hS.trans (bk.mono hS.size)
      replace hSn := And.intro hSn hDd
      clear bk
      refine hK'.out _ _ hSn.1 (fun hS => ?_)
      clear hK' K'
      replace hS := hSn
      refine wpAnyH_str (S' := fun Y => Below wd.heap.size wd Y ∧ Held Y gd 34 #[.int .i64 1, .slice (some ⟨g1, 0, none⟩) 5 5, .int .i64 201, .slice A2 17 c2]) (fun _ h => h.1) _ _ _ _ ?_
      refine wpAnyH_take (i := 1) (v := ?v1_34) rfl (by kernel_rfl) (by kernel_rfl) (by kernel_rfl) (fun _ _ _ h => h) (Or.inl ⟨by rfl, ?y1_34⟩) hS ?r1_34
      case y1_34 =>
        rintro W hH
        go_simp
        with_reducible rfl
      simp only [Act.put]
      try simp only [List.getElem_toArray, List.getElem_cons_succ, List.getElem_cons_zero]
      try simp only [List.setIfInBounds_toArray, List.set_cons_succ, List.set_cons_zero]
      refine wpAnyH_take (i := 2) (v := ?v2_35) rfl (by kernel_rfl) (by kernel_rfl) (by kernel_rfl) (fun _ _ _ h => h) (Or.inl ⟨by rfl, ?y2_35⟩) hS ?r2_35
      case y2_35 =>
        rintro W hH
        have hHb : Below wd.heap.size wd W := by first | exact hH | exact hH.1
        obtain ⟨sc0, sc1, sc2, sc3, sc4, sc5, sc6⟩ := sum_cells (h5d.below hHb h5l)
        have sc9 := sum_start (h5d.below hHb h5l)
        try (have hd2 := hH.2.cell 2; have hd3 := hH.2.cell 3; simp only [List.getElem?_toArray, List.getElem?_cons_zero, List.getElem?_cons_succ] at hd2 hd3)
        go_simp
        with_reducible rfl
      simp only [Act.put]
      try simp only [List.getElem_toArray, List.getElem_cons_succ, List.getElem_cons_zero]
      try simp only [List.setIfInBounds_toArray, List.set_cons_succ, List.set_cons_zero]
      refine wpAnyH_ready (rs := [14]) (by kernel_rfl) (by simp) ?_
      refine AllReadyH.cons rfl (fun K' hK' => ?_) AllReadyH.nil
      go_simp
      refine (L3.out _).mono ?_
      rintro e X3 ⟨rfl, bk⟩
      dsimp only
      have bw := bw.trans (bk.mono bw.size)
      have h4c := h4c.below bk h4c.lt
      have hn6 := hn6.below bk hn6.lt
      have hPT := hPT.up bk
      have hTY := hTY.up bk
      have hSn := And.intro (hS.1.trans (bk.mono hS.1.size)) (hS.2.below bk hS.2.lt)
      clear bk
      refine hK'.out _ _ hSn (fun hS => ?_)
      clear hK' K'
      refine wpAnyH_ready (rs := [17]) (by kernel_rfl) (by simp) ?_
      refine AllReadyH.cons rfl (fun K' hK' => ?_) AllReadyH.nil
      go_simp
      refine (L4.out _).mono ?_
      rintro e X4 ⟨rfl, bk⟩
      dsimp only
      have bw := bw.trans (bk.mono bw.size)
      have h4c := h4c.below bk h4c.lt
      have hn6 := hn6.below bk hn6.lt
      have hPT := hPT.up bk
      have hTY := hTY.up bk
      have hSn := And.intro (hS.1.trans (bk.mono hS.1.size)) (hS.2.below bk hS.2.lt)
      clear bk
      refine hK'.out _ _ hSn (fun hS => ?_)
      clear hK' K'
      refine wpAnyH_ready (rs := [20]) (by kernel_rfl) (by simp) ?_
      refine AllReadyH.cons rfl (fun K' hK' => ?_) AllReadyH.nil
      go_simp
      refine (L5.out _).mono ?_
      rintro e X5 ⟨rfl, bk⟩
      dsimp only
      have bw := bw.trans (bk.mono bw.size)
      have h4c := h4c.below bk h4c.lt
      have hn6 := hn6.below bk hn6.lt
      have hPT := hPT.up bk
      have hTY := hTY.up bk
      have hSn := And.intro (hS.1.trans (bk.mono hS.1.size)) (hS.2.below bk hS.2.lt)
      clear bk
      refine hK'.out _ _ hSn (fun hS => ?_)
      clear hK' K'
      refine wpAnyH_ready (rs := [23]) (by kernel_rfl) (by simp) ?_
      refine AllReadyH.cons rfl (fun K' hK' => ?_) AllReadyH.nil
      go_simp
      refine (L6.out _).mono ?_
      rintro e X6 ⟨rfl, bk⟩
      dsimp only
      have bw := bw.trans (bk.mono bw.size)
      have h4c := h4c.below bk h4c.lt
      have hn6 := hn6.below bk hn6.lt
      have hPT := hPT.up bk
      have hTY := hTY.up bk
      have hSn := And.intro (hS.1.trans (bk.mono hS.1.size)) (hS.2.below bk hS.2.lt)
      clear bk
      refine hK'.out _ _ hSn (fun hS => ?_)
      clear hK' K'
      refine wpAnyH_ready (rs := [26]) (by kernel_rfl) (by simp) ?_
      refine AllReadyH.cons rfl (fun K' hK' => ?_) AllReadyH.nil
      go_simp
      refine (L7.out _).mono ?_
      rintro e X7 ⟨rfl, bk⟩
      dsimp only
      have bw := bw.trans (bk.mono bw.size)
      have h4c := h4c.below bk h4c.lt
      have hn6 := hn6.below bk hn6.lt
      have hPT := hPT.up bk
      have hTY := hTY.up bk
      have hSn := And.intro (hS.1.trans (bk.mono hS.1.size)) (hS.2.below bk hS.2.lt)
      clear bk
      refine hK'.out _ _ hSn (fun hS => ?_)
      clear hK' K'
      refine wpAnyH_ready (rs := [32]) (by kernel_rfl) (by simp) ?_
      refine AllReadyH.cons rfl (fun K' hK' => ?_) AllReadyH.nil
      go_simp
      obtain ⟨X8, hX8⟩ : ∃ Y, X7.alloc (.cells #[.int .u64 ((m : Int)), .int .i64 (0), .string ⟨#[]⟩, .int .u64 (0), .int .i64 (S.energy), .string ⟨#[]⟩, .int .u64 (0), .int .i64 (S.cost), .string ⟨#[]⟩, .int .u64 (IntKind.u32.wrap S.intervals), .int .i64 (0), .string empS, .int .u64 (IntKind.u32.wrap S.flagged), .int .i64 (0), .string empS, .int .u64 (IntKind.u32.wrap S.suspects), .int .i64 (0), .string empS, .int .u64 (IntKind.u32.wrap S.replaced), .int .i64 (0), .string empS, .int .u64 (IntKind.u32.wrap S.corrected), .int .i64 (0), .string empS, .int .u64 (IntKind.u64.wrap S.last.start), .int .i64 (0), .string ⟨#[]⟩] 46) = Y := ⟨_, rfl⟩
      have bk : Below X7.heap.size X7 X8 := by rw [← hX8]; exact (Below.refl _ _).alloc (Nat.le_refl _) _
      have bw := bw.trans (bk.mono bw.size)
      have h4c := h4c.below bk h4c.lt
      have hn6 := hn6.below bk hn6.lt
      have hPT := hPT.up bk
      have hTY := hTY.up bk
      have hSn := And.intro (hS.1.trans (bk.mono hS.1.size)) (hS.2.below bk hS.2.lt)
      have hown : X8.ownsRow base 46 3 (.slice (some ⟨X7.heap.size, 0, none⟩) 9 9) 9 (valC (meterH m S)) := by rw [← hX8]; exact World.ownsRow_lit X7 #[.int .u64 ((m : Int)), .int .i64 (0), .string ⟨#[]⟩, .int .u64 (0), .int .i64 (S.energy), .string ⟨#[]⟩, .int .u64 (0), .int .i64 (S.cost), .string ⟨#[]⟩, .int .u64 (IntKind.u32.wrap S.intervals), .int .i64 (0), .string empS, .int .u64 (IntKind.u32.wrap S.flagged), .int .i64 (0), .string empS, .int .u64 (IntKind.u32.wrap S.suspects), .int .i64 (0), .string empS, .int .u64 (IntKind.u32.wrap S.replaced), .int .i64 (0), .string empS, .int .u64 (IntKind.u32.wrap S.corrected), .int .i64 (0), .string empS, .int .u64 (IntKind.u64.wrap S.last.start), .int .i64 (0), .string ⟨#[]⟩] 9 (by have := hS.1.size; omega) (by unfold maxLen; omega) rfl
      have hgv : base ≤ X7.heap.size := by have := hS.1.size; omega
      rw [hX8]
      clear bk hX8
      refine hK'.out _ _ hSn (fun hS => ?_)
      clear hK' K'
      refine wpAnyH_take (i := 33) (v := ?v33_36) rfl (by kernel_rfl) (by kernel_rfl) (by kernel_rfl) (fun _ _ _ h => h) (Or.inl ⟨by rfl, ?y33_36⟩) hS ?r33_36
      case y33_36 =>
        rintro W hH
        go_simp
        with_reducible rfl
      simp only [Act.put]
      try simp only [List.getElem_toArray, List.getElem_cons_succ, List.getElem_cons_zero]
      try simp only [List.setIfInBounds_toArray, List.set_cons_succ, List.set_cons_zero]
      refine wpAnyH_ready (rs := [35]) (by kernel_rfl) (by simp) ?_
      refine AllReadyH.cons rfl (fun K' hK' => ?_) AllReadyH.nil
      have hMI := MtrI.made h4c hn6 hown hPT hTY bw (by have := hS.1.size; omega) (by omega) hg6
      have hcf := hn6.frozen
      have hc0 := hn6.cell 0
      have hc1 := hn6.cell 1
      have hc2 := hn6.cell 2
      have hl6 := hn6.lt
      have hdz : wd.heap.size ≤ X8.heap.size := hS.1.size
      have hg0 := (hS.2.lt)
      have hgn : gd ≠ wd.heap.size := fun e => absurd (show (34 : Nat) = 37 from by have h1 := hS.2; rw [e] at h1; have := h1.symm.trans hn6; injection this with this; injection this) (by decide)
      have hSn := And.intro (set3_below hS.1 (B := wd.heap.size) (by omega) (.int .i64 201) (.slice A2 17 c2) (.slice (some ⟨X7.heap.size, 0, none⟩) 9 9)) (((hS.2.far (p := ⟨wd.heap.size, 0, none⟩) hgn (.int .i64 201)).far (p := ⟨wd.heap.size, 1, none⟩) hgn (.slice A2 17 c2)).far (p := ⟨wd.heap.size, 2, none⟩) hgn (.slice (some ⟨X7.heap.size, 0, none⟩) 9 9))
      go_simp
      refine hK'.out _ _ hSn (fun hS => ?_)
      clear hK' K'
      refine wpAnyH_done (by kernel_rfl) ?_ _
      go_wp2_with fail
      go_meet
      case rel => exact ⟨_, _, _, _, rfl, hMI⟩
  case rest =>
    obtain ⟨g6, Ap, cp, gv, rfl, hI⟩ := hcut
    have H0 := Lib.hid hI
    have hbk := HBK.out
    obtain ⟨i0, hi0, hz0, hz1, hz2⟩ := info_parts info_value
    clear hI h4c h4d h5d h4l h4l' h5l bw bwd hS
    go_wp2_with fail
    go_loopw [45] (MtrQ b m w base g6 Ap cp) (fun v _ => 8 - (intOf v).toNat)
    case atStart => exact ⟨0, _, by omega, rfl, by rw [show bandsV b m 0 = [] from rfl, List.append_nil, HSE.out]; exact H0.out⟩
    case round =>
      obtain ⟨k, v, hk, rfl, hI⟩ := hrel
      by_cases hlt : k < 8
      · have hkI : (k : Int) < 8 := by omega
        obtain ⟨te, hte⟩ : ∃ q, (b.totAt m k).energy = q := ⟨_, rfl⟩
        obtain ⟨tc, htc⟩ : ∃ q, (b.totAt m k).cost = q := ⟨_, rfl⟩
        obtain ⟨tm, htm⟩ : ∃ q, (b.totAt m k).many = q := ⟨_, rfl⟩
        have hTE : b.totI m k = ⟨te, tc, tm⟩ := by rw [totI_nat b m k hm hlt, ← hte, ← htc, ← htm]
        have HTO := Lib.hid (fun (V : World) (hV : BookAt V p b) => btot_at hbk hV (m : Int) (k : Int))
        rw [hTE] at HTO
        replace HTO : Hid (∀ V : World, BookAt V p b → Calls Tryd.prog 40 #[p, .int .i64 m, .int .i64 k] V fun e w' => e = .returned (.agg #[.int .i64 te, .int .i64 tc, .int .i64 tm]) ∧ Below V.heap.size V w') := HTO
        have HBS := Lib.hid (bandsV_succ b m k)
        rw [hte] at HBS
        have HVC : Hid (valC (meterH m (b.sumAt m) ++ bandsV b m (k + 1)) = valC (meterH m (b.sumAt m) ++ bandsV b m k) ++ [.int .u64 0, .int .i64 te, .string empS]) := Lib.hid (by rw [HBS.out, ← List.append_assoc, valC_app _ [_]]; rfl)
        obtain ⟨A0, c0, rfl, _⟩ := SlV.of_own (by omega) hI.2.2.1
        have HB1 := Lib.hid (show (9 + k) + 1 ≤ maxLen ∧ ((9 + k) + 1) * 32 ≤ 140737488355328 by unfold maxLen; omega)
        clear hte htc htm hTE
        have HI := Lib.hid hI
        clear hI
        go_upto_region 6 with fail
        obtain ⟨X0, hX0⟩ : ∃ Y : World, wr.drew = Y := ⟨_, rfl⟩
        have hI : MtrI w base g6 Ap cp (.slice A0 (9 + k) c0) (9 + k) (valC (meterH m (b.sumAt m) ++ bandsV b m k)) X0 := by
          rw [← hX0]
          obtain ⟨h1, h2, h3, h4, h5, h6, h7, h8, h9⟩ := HI.out
          exact ⟨h1.drew, h2.drew, h3.drew, h4, h5, h6.drew, h7, h8, h9⟩
        have hOC := hI.2.1.cell 2
        simp only [List.getElem?_toArray, List.getElem?_cons_zero, List.getElem?_cons_succ] at hOC
        have hS : True := trivial
        have hFL := fun V => tot_field te tc tm V
        refine wp_region_held (S := fun _ => True) (by kernel_rfl) ?_
        change wpAnyH _ _ _ _ _ _ _ _ wr.drew
        rw [hX0]
        clear hX0
        refine wpAnyH_take (i := 0) (v := ?v0_3001) rfl (by kernel_rfl) (by kernel_rfl) (by kernel_rfl) (fun _ _ _ h => h) (Or.inl ⟨by rfl, ?y0_3001⟩) hS ?r0_3001
        case y0_3001 =>
          rintro W hH
          go_simp
          with_reducible rfl
        simp only [Act.put]
        try simp only [List.getElem_toArray, List.getElem_cons_zero]
        try simp only [List.setIfInBounds_toArray, List.set_cons_succ, List.set_cons_zero]
        refine wpAnyH_take (i := 2) (v := ?v2_3002) rfl (by kernel_rfl) (by kernel_rfl) (by kernel_rfl) (fun _ _ _ h => h) (Or.inl ⟨by rfl, ?y2_3002⟩) hS ?r2_3002
        case y2_3002 =>
          rintro W hH
          go_simp
          with_reducible rfl
        simp only [Act.put]
        try simp only [List.getElem_toArray, List.getElem_cons_succ, List.getElem_cons_zero]
        try simp only [List.setIfInBounds_toArray, List.set_cons_succ, List.set_cons_zero]
        refine wpAnyH_take (i := 3) (v := ?v3_3003) rfl (by kernel_rfl) (by kernel_rfl) (by kernel_rfl) (fun _ _ _ h => h) (Or.inl ⟨by rfl, ?y3_3003⟩) hS ?r3_3003
        case y3_3003 =>
          rintro W hH
          go_simp
          with_reducible rfl
        simp only [Act.put]
        try simp only [List.getElem_toArray, List.getElem_cons_succ, List.getElem_cons_zero]
        try simp only [List.setIfInBounds_toArray, List.set_cons_succ, List.set_cons_zero]
        refine wpAnyH_take (i := 4) (v := ?v4_3004) rfl (by kernel_rfl) (by kernel_rfl) (by kernel_rfl) (fun _ _ _ h => h) (Or.inl ⟨by rfl, ?y4_3004⟩) hS ?r4_3004
        case y4_3004 =>
          rintro W hH
          go_simp
          with_reducible rfl
        simp only [Act.put]
        try simp only [List.getElem_toArray, List.getElem_cons_succ, List.getElem_cons_zero]
        try simp only [List.setIfInBounds_toArray, List.set_cons_succ, List.set_cons_zero]
        refine wpAnyH_ready (rs := [1, 5]) (by kernel_rfl) (by simp) ?_
        refine AllReadyH.cons rfl (fun K' hK' => ?_) (AllReadyH.cons rfl (fun K' hK' => ?_) AllReadyH.nil)
        · skip
          go_simp
          refine hK'.out _ _ hS (fun hS => ?_)
          clear hK' K'
          refine wpAnyH_ready (rs := [5]) (by kernel_rfl) (by simp) ?_
          refine AllReadyH.cons rfl (fun K' hK' => ?_) AllReadyH.nil
          go_simp
          refine (HTO.out X0 (HP.out.up hI.2.2.2.2.2.1)).mono ?_
          rintro e X1 ⟨rfl, bk⟩
          dsimp only
          replace hI := hI.up bk
          have hOC := hI.2.1.cell 2
          simp only [List.getElem?_toArray, List.getElem?_cons_zero, List.getElem?_cons_succ] at hOC
          refine hK'.out _ _ hS (fun hS => ?_)
          clear hK' K'
          refine wpAnyH_take (i := 6) (v := ?v6_3005) rfl (by kernel_rfl) (by kernel_rfl) (by kernel_rfl) (fun _ _ _ h => h) (Or.inl ⟨by rfl, ?y6_3005⟩) hS ?r6_3005
          case y6_3005 =>
            rintro W hH
            go_simp
            with_reducible rfl
          simp only [Act.put]
          try simp only [List.getElem_toArray, List.getElem_cons_succ, List.getElem_cons_zero]
          try simp only [List.setIfInBounds_toArray, List.set_cons_succ, List.set_cons_zero]
          refine wpAnyH_take (i := 7) (v := ?v7_3006) rfl (by kernel_rfl) (by kernel_rfl) (by kernel_rfl) (fun _ _ _ h => h) (Or.inl ⟨by rfl, ?y7_3006⟩) hS ?r7_3006
          case y7_3006 =>
            rintro W hH
            go_simp
            with_reducible rfl
          simp only [Act.put]
          try simp only [List.getElem_toArray, List.getElem_cons_succ, List.getElem_cons_zero]
          try simp only [List.setIfInBounds_toArray, List.set_cons_succ, List.set_cons_zero]
          refine wpAnyH_ready (rs := [8]) (by kernel_rfl) (by simp) ?_
          refine AllReadyH.cons rfl (fun K' hK' => ?_) AllReadyH.nil
          go_simp
          obtain ⟨X2, hY⟩ : ∃ Z, X1.alloc (.cells #[.int .u64 0, .int .i64 te, .string ⟨#[]⟩] 46) = Z := ⟨_, rfl⟩
          have hsl : SlV X2 X2.heap.size (some ⟨X1.heap.size, 0, none⟩) 1 1 3 [.int .u64 0, .int .i64 te, .string ⟨#[]⟩] := by rw [← hY]; exact SlV.of_lit rfl rfl (by omega)
          have bk : Below X1.heap.size X1 X2 := by rw [← hY]; exact (Below.refl _ _).alloc (Nat.le_refl _) _
          replace hI := hI.up bk
          have hOC := hI.2.1.cell 2
          simp only [List.getElem?_toArray, List.getElem?_cons_zero, List.getElem?_cons_succ] at hOC
          rw [hY]
          clear hY bk
          refine hK'.out _ _ hS (fun hS => ?_)
          clear hK' K'
          refine wpAnyH_ready (rs := [9]) (by kernel_rfl) (by simp) ?_
          refine AllReadyH.cons rfl (fun K' hK' => ?_) AllReadyH.nil
          refine wp_append_own _ (.tmp 49) (.tmp 56) 35 rfl base 46 i0 (.agg #[.int .u64 0, .int .i64 0, .string ⟨#[]⟩]) 3 32 Tryd.underlying35 hi0 hz0 hz1 hz2 rfl (by decide) (.slice A0 (9 + k) c0) (9 + k) _ (by kernel_rfl) hI.2.2.1 ⟨X1.heap.size, 0, none⟩ 1 1 [.int .u64 0, .int .i64 te, .string ⟨#[]⟩] (by kernel_rfl) rfl (news_v hsl.2.2.2.2) (by simp [Value.oneCell']) HB1.out.1 HB1.out.2 hI.2.2.2.2.2.2.1 ?_
          intro v9 V9 o9 gr9 _
          obtain ⟨A9, c9, rfl, _⟩ := SlV.of_own (by omega) o9
          simp only [Act.put]
          have hk6 := hI.2.1.kept gr9 (hI.2.1.not_row (by decide) hI.2.2.1)
          have hMI := hI.app gr9 o9
          have hcf := hk6.frozen
          have hc2 := hk6.cell 2
          refine hK'.out _ _ hS (fun hS => ?_)
          clear hK' K'
          refine wpAnyH_take (i := 10) (v := ?v10_3007) rfl (by kernel_rfl) (by kernel_rfl) (by kernel_rfl) (fun _ _ _ h => h) (Or.inl ⟨by rfl, ?y10_3007⟩) hS ?r10_3007
          case y10_3007 =>
            rintro W hH
            go_simp
            with_reducible rfl
          simp only [Act.put]
          try simp only [List.getElem_toArray, List.getElem_cons_succ, List.getElem_cons_zero]
          try simp only [List.setIfInBounds_toArray, List.set_cons_succ, List.set_cons_zero]
          refine wpAnyH_ready (rs := [11]) (by kernel_rfl) (by simp) ?_
          refine AllReadyH.cons rfl (fun K' hK' => ?_) AllReadyH.nil
          go_simp
          refine hK'.out _ _ hS (fun hS => ?_)
          clear hK' K'
          refine wpAnyH_done (by kernel_rfl) ?_ _
          go_wp2_with fail
          go_roundw
          case rel => exact ⟨k + 1, _, by omega, by go_num, by rw [HVC.out]; exact hMI⟩
          case measure => simp [intOf]; omega
        · skip
          go_simp
          refine (HTO.out X0 (HP.out.up hI.2.2.2.2.2.1)).mono ?_
          rintro e X1 ⟨rfl, bk⟩
          dsimp only
          replace hI := hI.up bk
          have hOC := hI.2.1.cell 2
          simp only [List.getElem?_toArray, List.getElem?_cons_zero, List.getElem?_cons_succ] at hOC
          refine hK'.out _ _ hS (fun hS => ?_)
          clear hK' K'
          refine wpAnyH_take (i := 6) (v := ?v6_3008) rfl (by kernel_rfl) (by kernel_rfl) (by kernel_rfl) (fun _ _ _ h => h) (Or.inl ⟨by rfl, ?y6_3008⟩) hS ?r6_3008
          case y6_3008 =>
            rintro W hH
            go_simp
            with_reducible rfl
          simp only [Act.put]
          try simp only [List.getElem_toArray, List.getElem_cons_succ, List.getElem_cons_zero]
          try simp only [List.setIfInBounds_toArray, List.set_cons_succ, List.set_cons_zero]
          refine wpAnyH_take (i := 7) (v := ?v7_3009) rfl (by kernel_rfl) (by kernel_rfl) (by kernel_rfl) (fun _ _ _ h => h) (Or.inl ⟨by rfl, ?y7_3009⟩) hS ?r7_3009
          case y7_3009 =>
            rintro W hH
            go_simp
            with_reducible rfl
          simp only [Act.put]
          try simp only [List.getElem_toArray, List.getElem_cons_succ, List.getElem_cons_zero]
          try simp only [List.setIfInBounds_toArray, List.set_cons_succ, List.set_cons_zero]
          refine wpAnyH_ready (rs := [1, 8]) (by kernel_rfl) (by simp) ?_
          refine AllReadyH.cons rfl (fun K' hK' => ?_) (AllReadyH.cons rfl (fun K' hK' => ?_) AllReadyH.nil)
          · skip
            go_simp
            refine hK'.out _ _ hS (fun hS => ?_)
            clear hK' K'
            refine wpAnyH_ready (rs := [8]) (by kernel_rfl) (by simp) ?_
            refine AllReadyH.cons rfl (fun K' hK' => ?_) AllReadyH.nil
            go_simp
            obtain ⟨X2, hY⟩ : ∃ Z, X1.alloc (.cells #[.int .u64 0, .int .i64 te, .string ⟨#[]⟩] 46) = Z := ⟨_, rfl⟩
            have hsl : SlV X2 X2.heap.size (some ⟨X1.heap.size, 0, none⟩) 1 1 3 [.int .u64 0, .int .i64 te, .string ⟨#[]⟩] := by rw [← hY]; exact SlV.of_lit rfl rfl (by omega)
            have bk : Below X1.heap.size X1 X2 := by rw [← hY]; exact (Below.refl _ _).alloc (Nat.le_refl _) _
            replace hI := hI.up bk
            have hOC := hI.2.1.cell 2
            simp only [List.getElem?_toArray, List.getElem?_cons_zero, List.getElem?_cons_succ] at hOC
            rw [hY]
            clear hY bk
            refine hK'.out _ _ hS (fun hS => ?_)
            clear hK' K'
            refine wpAnyH_ready (rs := [9]) (by kernel_rfl) (by simp) ?_
            refine AllReadyH.cons rfl (fun K' hK' => ?_) AllReadyH.nil
            refine wp_append_own _ (.tmp 49) (.tmp 56) 35 rfl base 46 i0 (.agg #[.int .u64 0, .int .i64 0, .string ⟨#[]⟩]) 3 32 Tryd.underlying35 hi0 hz0 hz1 hz2 rfl (by decide) (.slice A0 (9 + k) c0) (9 + k) _ (by kernel_rfl) hI.2.2.1 ⟨X1.heap.size, 0, none⟩ 1 1 [.int .u64 0, .int .i64 te, .string ⟨#[]⟩] (by kernel_rfl) rfl (news_v hsl.2.2.2.2) (by simp [Value.oneCell']) HB1.out.1 HB1.out.2 hI.2.2.2.2.2.2.1 ?_
            intro v9 V9 o9 gr9 _
            obtain ⟨A9, c9, rfl, _⟩ := SlV.of_own (by omega) o9
            simp only [Act.put]
            have hk6 := hI.2.1.kept gr9 (hI.2.1.not_row (by decide) hI.2.2.1)
            have hMI := hI.app gr9 o9
            have hcf := hk6.frozen
            have hc2 := hk6.cell 2
            refine hK'.out _ _ hS (fun hS => ?_)
            clear hK' K'
            refine wpAnyH_take (i := 10) (v := ?v10_3010) rfl (by kernel_rfl) (by kernel_rfl) (by kernel_rfl) (fun _ _ _ h => h) (Or.inl ⟨by rfl, ?y10_3010⟩) hS ?r10_3010
            case y10_3010 =>
              rintro W hH
              go_simp
              with_reducible rfl
            simp only [Act.put]
            try simp only [List.getElem_toArray, List.getElem_cons_succ, List.getElem_cons_zero]
            try simp only [List.setIfInBounds_toArray, List.set_cons_succ, List.set_cons_zero]
            refine wpAnyH_ready (rs := [11]) (by kernel_rfl) (by simp) ?_
            refine AllReadyH.cons rfl (fun K' hK' => ?_) AllReadyH.nil
            go_simp
            refine hK'.out _ _ hS (fun hS => ?_)
            clear hK' K'
            refine wpAnyH_done (by kernel_rfl) ?_ _
            go_wp2_with fail
            go_roundw
            case rel => exact ⟨k + 1, _, by omega, by go_num, by rw [HVC.out]; exact hMI⟩
            case measure => simp [intOf]; omega
          · skip
            go_simp
            obtain ⟨X2, hY⟩ : ∃ Z, X1.alloc (.cells #[.int .u64 0, .int .i64 te, .string ⟨#[]⟩] 46) = Z := ⟨_, rfl⟩
            have hsl : SlV X2 X2.heap.size (some ⟨X1.heap.size, 0, none⟩) 1 1 3 [.int .u64 0, .int .i64 te, .string ⟨#[]⟩] := by rw [← hY]; exact SlV.of_lit rfl rfl (by omega)
            have bk : Below X1.heap.size X1 X2 := by rw [← hY]; exact (Below.refl _ _).alloc (Nat.le_refl _) _
            replace hI := hI.up bk
            have hOC := hI.2.1.cell 2
            simp only [List.getElem?_toArray, List.getElem?_cons_zero, List.getElem?_cons_succ] at hOC
            rw [hY]
            clear hY bk
            refine hK'.out _ _ hS (fun hS => ?_)
            clear hK' K'
            refine wpAnyH_ready (rs := [1]) (by kernel_rfl) (by simp) ?_
            refine AllReadyH.cons rfl (fun K' hK' => ?_) AllReadyH.nil
            go_simp
            refine hK'.out _ _ hS (fun hS => ?_)
            clear hK' K'
            refine wpAnyH_ready (rs := [9]) (by kernel_rfl) (by simp) ?_
            refine AllReadyH.cons rfl (fun K' hK' => ?_) AllReadyH.nil
            refine wp_append_own _ (.tmp 49) (.tmp 56) 35 rfl base 46 i0 (.agg #[.int .u64 0, .int .i64 0, .string ⟨#[]⟩]) 3 32 Tryd.underlying35 hi0 hz0 hz1 hz2 rfl (by decide) (.slice A0 (9 + k) c0) (9 + k) _ (by kernel_rfl) hI.2.2.1 ⟨X1.heap.size, 0, none⟩ 1 1 [.int .u64 0, .int .i64 te, .string ⟨#[]⟩] (by kernel_rfl) rfl (news_v hsl.2.2.2.2) (by simp [Value.oneCell']) HB1.out.1 HB1.out.2 hI.2.2.2.2.2.2.1 ?_
            intro v9 V9 o9 gr9 _
            obtain ⟨A9, c9, rfl, _⟩ := SlV.of_own (by omega) o9
            simp only [Act.put]
            have hk6 := hI.2.1.kept gr9 (hI.2.1.not_row (by decide) hI.2.2.1)
            have hMI := hI.app gr9 o9
            have hcf := hk6.frozen
            have hc2 := hk6.cell 2
            refine hK'.out _ _ hS (fun hS => ?_)
            clear hK' K'
            refine wpAnyH_take (i := 10) (v := ?v10_3011) rfl (by kernel_rfl) (by kernel_rfl) (by kernel_rfl) (fun _ _ _ h => h) (Or.inl ⟨by rfl, ?y10_3011⟩) hS ?r10_3011
            case y10_3011 =>
              rintro W hH
              go_simp
              with_reducible rfl
            simp only [Act.put]
            try simp only [List.getElem_toArray, List.getElem_cons_succ, List.getElem_cons_zero]
            try simp only [List.setIfInBounds_toArray, List.set_cons_succ, List.set_cons_zero]
            refine wpAnyH_ready (rs := [11]) (by kernel_rfl) (by simp) ?_
            refine AllReadyH.cons rfl (fun K' hK' => ?_) AllReadyH.nil
            go_simp
            refine hK'.out _ _ hS (fun hS => ?_)
            clear hK' K'
            refine wpAnyH_done (by kernel_rfl) ?_ _
            go_wp2_with fail
            go_roundw
            case rel => exact ⟨k + 1, _, by omega, by go_num, by rw [HVC.out]; exact hMI⟩
            case measure => simp [intOf]; omega
      · obtain rfl : k = 8 := by omega
        obtain ⟨h1, h2, h3, h4, h5, h6, h7, h8, h9⟩ := hI
        obtain ⟨Av, cv, rfl, hsv⟩ := SlV.of_own (by omega) h3
        have c40 := h1.cell 0
        have c41 := h1.cell 1
        have c42 := h1.cell 2
        have c60 := h2.cell 0
        have c61 := h2.cell 1
        have c62 := h2.cell 2
        have f4 := h1.frozen
        simp only [List.getElem?_toArray, List.getElem?_cons_zero, List.getElem?_cons_succ] at c40 c41 c42 c60 c61 c62
        have hH := set3 h1 (.int .i64 201) (.slice Ap 17 cp) (.slice Av (9 + 8) cv)
        have hbF := set3_below h6 (B := w.heap.size) (Nat.le_refl _) (.int .i64 201) (.slice Ap 17 cp) (.slice Av (9 + 8) cv)
        have hne := h5.ne h1 (by decide)
        have hnv : ∀ a, Av = some a → a.block ≠ w.heap.size := fun a e hg => (h1.not_row (by decide) h3) (by rw [e]; show some w.heap.size = some a.block; rw [hg])
        have hgo : ∀ x, x ≠ w.heap.size → (((wr.setCell ⟨w.heap.size, 0, none⟩ (.int .i64 201)).setCell ⟨w.heap.size, 1, none⟩ (.slice Ap 17 cp)).setCell ⟨w.heap.size, 2, none⟩ (.slice Av (9 + 8) cv)).heap[x]? = wr.heap[x]? := fun x hx => (Below.heap_setCell _ _ _ x hx).trans ((Below.heap_setCell _ _ _ x hx).trans (Below.heap_setCell _ _ _ x hx))
        have hsz : (((wr.setCell ⟨w.heap.size, 0, none⟩ (.int .i64 201)).setCell ⟨w.heap.size, 1, none⟩ (.slice Ap 17 cp)).setCell ⟨w.heap.size, 2, none⟩ (.slice Av (9 + 8) cv)).heap.size = wr.heap.size := by simp only [World.size_setCell]
        have HPF := Lib.hid (show PtI (((wr.setCell ⟨w.heap.size, 0, none⟩ (.int .i64 201)).setCell ⟨w.heap.size, 1, none⟩ (.slice Ap 17 cp)).setCell ⟨w.heap.size, 2, none⟩ (.slice Av (9 + 8) cv)) (((wr.setCell ⟨w.heap.size, 0, none⟩ (.int .i64 201)).setCell ⟨w.heap.size, 1, none⟩ (.slice Ap 17 cp)).setCell ⟨w.heap.size, 2, none⟩ (.slice Av (9 + 8) cv)).heap.size Ap 17 cp P17 by rw [hsz]; exact h4.kept (Nat.le_refl _) (fun a e => hgo _ (hne a e)))
        have HVF := Lib.hid (show VlI (((wr.setCell ⟨w.heap.size, 0, none⟩ (.int .i64 201)).setCell ⟨w.heap.size, 1, none⟩ (.slice Ap 17 cp)).setCell ⟨w.heap.size, 2, none⟩ (.slice Av (9 + 8) cv)) (((wr.setCell ⟨w.heap.size, 0, none⟩ (.int .i64 201)).setCell ⟨w.heap.size, 1, none⟩ (.slice Ap 17 cp)).setCell ⟨w.heap.size, 2, none⟩ (.slice Av (9 + 8) cv)).heap.size Av 17 cv (meterV b m) by rw [hsz]; exact (VlI.of_cells hsv).kept (Nat.le_refl _) (fun a e => hgo _ (hnv a e)))
        have HTF := Lib.hid (show TyAt (((wr.setCell ⟨w.heap.size, 0, none⟩ (.int .i64 201)).setCell ⟨w.heap.size, 1, none⟩ (.slice Ap 17 cp)).setCell ⟨w.heap.size, 2, none⟩ (.slice Av (9 + 8) cv)) 42 Ap ∧ TyAt (((wr.setCell ⟨w.heap.size, 0, none⟩ (.int .i64 201)).setCell ⟨w.heap.size, 1, none⟩ (.slice Ap 17 cp)).setCell ⟨w.heap.size, 2, none⟩ (.slice Av (9 + 8) cv)) 46 Av from ⟨h5.same (fun a e => hgo _ (hne a e)), (TyAt.of_own h3).same (fun a e => hgo _ (hnv a e))⟩)
        clear h1 h2 h3 h4 h5 h6 hsv hne hnv hgo hsz
        go_wp2_with fail
        exact bodyPost_ret (results_cell_row Tryd.results30 _ _ (w.heap.size) 37 _ (0, 0) _ rfl hH Tryd.underlying37 rfl (by kernel_rfl)) rfl ⟨Ap, cp, Av, cv, rfl, HPF.out, HVF.out, HTF.out.1, HTF.out.2, hbF⟩
end Go.Proofs.YtnnknnaimabehaaDoor
