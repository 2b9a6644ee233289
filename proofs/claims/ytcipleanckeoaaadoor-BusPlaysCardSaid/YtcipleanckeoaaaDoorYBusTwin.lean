/- Clones, with their blocks' types; bus.twin. Printed by bustwin.py. -/
import Derived.Test.YtcipleanckeoaaaDoorYTk
import Derived.Test.YtcipleanckeoaaaDoorYBusOwn
import Derived.Deep.Cut
open List renaming setIfInBounds_toArray → zC, set_cons_succ → zD, set_cons_zero → zE
set_option maxRecDepth 100000
set_option maxHeartbeats 40000000
namespace Go.Proofs.YtcipleanckeoaaaDoor
open Go.RowKit Go.Shelf
attribute [local go_sem] Oper.semAt_some
set_option linter.unusedVariables false
set_option linter.unusedSimpArgs false
def TyAt (W : World) (T : TypeId) (A : Option Addr) : Prop := ∀ a, A = some a → ∃ cs, W.heap[a.block]? = some (.cells cs T (0, 0))
theorem TyAt.none (W : World) (T : TypeId) : TyAt W T none := fun a e => by cases e
theorem TyAt.of_own {W : World} {base size n c : Nat} {T : TypeId} {A : Option Addr} {xs : List Value} (h : W.ownsRow base T size (.slice A n c) n xs) : TyAt W T A := fun a e => by
 subst e
 rcases h.2 with ⟨h, _⟩ | ⟨g3, _, cur, h, _, h4, _⟩
 ·cases h
 ·injection h with h
  injection h with h
  rw [h]
  exact ⟨cur, h4⟩
theorem TyAt.up {W W' : World} {T : TypeId} {A : Option Addr} (h : TyAt W T A) (hb : Below W.heap.size W W') : TyAt W' T A := fun a e => by
 obtain ⟨cs, hc⟩ := h a e
 exact ⟨cs, (hb.block _ (Array.getElem?_eq_some_iff.1 hc).1).trans hc⟩
def TyPost (w : World) (T : TypeId) (k : IntKind) (xs : List Int) (e : Ending) (w' : World) : Prop := ∃ A n c, e = .returned (.slice A n c) ∧ SlI w' w'.heap.size k A n c xs ∧ TyAt w' T A ∧ Below w.heap.size w w'
def KT (T : TypeId) (W W' : World) : Prop := W.heap.size ≤ W'.heap.size ∧ ∀ (k : Nat) (cs : Array Value) (t : TypeId), W.heap[k]? = some (Obj.cells cs t (0, 0)) → t ≠ T → W'.heap[k]? = W.heap[k]?
theorem KT.grown {T : TypeId} {W W' : World} {B size n : Nat} {v : Value} {xs : List Value} (hg : W.grownBy W' v.ownBlock) (ho : W.ownsRow B T size v n xs) : KT T W W' := ⟨hg.size, fun k cs t hk ht => hg.block k (Array.getElem?_eq_some_iff.1 hk).1 (fun e => by
 rcases ho.2 with ⟨rfl, _⟩ | ⟨g, cap, cur, rfl, _, h4, _⟩
 ·cases e
 ·injection e with e
  subst e
  rw [h4] at hk
  injection hk with hk
  injection hk with _ h
  exact ht h.symm)⟩
theorem KT.set {T : TypeId} {W : World} {g : Nat} {cs : Array Value} (h : Held W g T cs) (i : Nat) (u : Value) : KT T W (W.setCell ⟨g, i, none⟩ u) := ⟨by simp, fun k c t hk ht => Below.heap_setCell _ _ _ _ (fun e => by
 have e : k = g := e
 subst e
 have h : W.heap[k]? = some (.cells cs T (0, 0)) := h
 rw [h] at hk
 injection hk with hk
 injection hk with _ h
 exact ht h.symm)⟩
theorem TyAt.kt {T T' : TypeId} {W W' : World} {A : Option Addr} (h : TyAt W T A) (k : KT T' W W') (hT : T ≠ T') : TyAt W' T A := fun a e => by
 obtain ⟨cs, hc⟩ := h a e
 exact ⟨cs, (k.2 _ _ _ hc hT).trans hc⟩
theorem SlI.kt {T T' : TypeId} {W W' : World} {q : IntKind} {A : Option Addr} {n c : Nat} {xs : List Int} (h : SlI W W.heap.size q A n c xs) (ht : TyAt W T A) (k : KT T' W W') (hT : T ≠ T') : SlI W' W'.heap.size q A n c xs := by
 refine ⟨h.1, h.2.1, h.2.2.1, h.2.2.2.1, fun hn => ?_⟩
 obtain ⟨g, off, e, hlt, hc⟩ := h.2.2.2.2 hn
 subst e
 obtain ⟨cs, hcs⟩ := ht _ rfl
 refine ⟨g, off, rfl, Nat.lt_of_lt_of_le hlt k.1, fun i x hx => ?_⟩
 rw [World.cell?_of_block (a := ⟨g, off + i, none⟩) (k.2 _ _ _ hcs hT)]
 exact hc i x hx
theorem KT.but {T : TypeId} {W W' : World} {g : Nat} {cs : Array Value} (h : Held W g T cs) (b : But g W W') : KT T W W' := ⟨b.size, fun k c t hk ht => b.2 k (fun e => by
 subst e
 have h : W.heap[k]? = some (.cells cs T (0, 0)) := h
 rw [h] at hk
 injection hk with hk
 injection hk with _ h
 exact ht h.symm) (Array.getElem?_eq_some_iff.1 hk).1⟩
theorem clone8t (D : Option Addr) (n c : Nat) (xs : List Int) (w : World) (hS : SlI w w.heap.size .u8 D n c xs) (hn : n ≤ 100000) :
  Calls Tryd.prog 51 #[.slice D n c] w (TyPost w 5 .u8 xs) := by
 obtain ⟨i0, hi, hz0, hz1, hz2⟩ := info_parts infoB
 cases D with
 | none =>
  obtain ⟨rfl, rfl⟩ := hS.2.2.2.1 rfl
  obtain rfl : xs = [] := List.length_eq_zero_iff.1 hS.1
  have heq := fun (W : World) => Lib.run_eql_slice_nil (P := Tryd.prog) W 22 5 none 0 0 0 0 Tryd.underlying22
  clear hS
  go_in
  go_wp2
  go_ret
  exact ⟨none, 0, 0, rfl, SlI.nil _ _ _, TyAt.none _ _, Below.refl _ _⟩
 | some p =>
  have heq := fun (W : World) => Lib.run_eql_slice_nil (P := Tryd.prog) W 22 5 (some p) n c 0 0 Tryd.underlying22
  obtain ⟨w1, hw1⟩ : ∃ Y : World, w.alloc (.cells #[] 5) = Y := ⟨_, rfl⟩
  have b1 := zB1 hw1
  have o1 : w1.ownsRow w.heap.size 5 1 (.slice (some ⟨w.heap.size, 0, none⟩) 0 0) 0 (([] : List Int).map (Value.int .u8)) := by
   rw [← hw1]; exact World.ownsRow_lit w #[] 0 (Nat.le_refl _) (by unfold maxLen; omega) rfl
  have s1 := hS.up b1
  have HA1 := Lib.hid (show 0 + n ≤ maxLen ∧ (0 + n) * 1 ≤ 140737488355328 by unfold maxLen; omega)
  have hz := b1.size
  clear hS
  go_in
  go_wp2_with ((with_reducible refine at_append ?_); refine wpList_append_sl w1 rfl (.tmp 5) (.tmp 6) 22 rfl w.heap.size 5 i0 (.int .u8 0) 1 Tryd.underlying22 hi hz0 hz1 hz2 rfl _ 0 _ rfl o1 w1.heap.size .u8 (some p) n c xs rfl s1 HA1.out.1 HA1.out.2 hz ?_; intro v2 w2 hO2 hg2 _; have hb2 := b1.grown hg2 hz (fun B hB => (o1.lt B hB).1); clear hg2)
  rw [List.map_nil, List.nil_append, Nat.zero_add] at hO2
  obtain ⟨A2, c2, rfl, hs2⟩ := SlI.of_own (xs := xs) hO2
  go_ret
  exact ⟨A2, _, c2, rfl, hs2, TyAt.of_own hO2, hb2⟩
theorem clone16t (D : Option Addr) (n c : Nat) (xs : List Int) (w : World) (hS : SlI w w.heap.size .u16 D n c xs) (hn : n ≤ 100000) :
  Calls Tryd.prog 88 #[.slice D n c] w (TyPost w 45 .u16 xs) := by
 obtain ⟨i0, hi, hz0, hz1, hz2⟩ := info_parts infoW
 cases D with
 | none =>
  obtain ⟨rfl, rfl⟩ := hS.2.2.2.1 rfl
  obtain rfl : xs = [] := List.length_eq_zero_iff.1 hS.1
  have heq := fun (W : World) => Lib.run_eql_slice_nil (P := Tryd.prog) W 27 45 none 0 0 0 0 Tryd.underlying27
  clear hS
  go_in
  go_wp2
  go_ret
  exact ⟨none, 0, 0, rfl, SlI.nil _ _ _, TyAt.none _ _, Below.refl _ _⟩
 | some p =>
  have heq := fun (W : World) => Lib.run_eql_slice_nil (P := Tryd.prog) W 27 45 (some p) n c 0 0 Tryd.underlying27
  obtain ⟨w1, hw1⟩ : ∃ Y : World, w.alloc (.cells #[] 45) = Y := ⟨_, rfl⟩
  have b1 := zB1 hw1
  have o1 : w1.ownsRow w.heap.size 45 1 (.slice (some ⟨w.heap.size, 0, none⟩) 0 0) 0 (([] : List Int).map (Value.int .u16)) := by
   rw [← hw1]; exact World.ownsRow_lit w #[] 0 (Nat.le_refl _) (by unfold maxLen; omega) rfl
  have s1 := hS.up b1
  have HA1 := Lib.hid (show 0 + n ≤ maxLen ∧ (0 + n) * 2 ≤ 140737488355328 by unfold maxLen; omega)
  have hz := b1.size
  clear hS
  go_in
  go_wp2_with ((with_reducible refine at_append ?_); refine wpList_append_sl w1 rfl (.tmp 5) (.tmp 6) 27 rfl w.heap.size 45 i0 (.int .u16 0) 2 Tryd.underlying27 hi hz0 hz1 hz2 rfl _ 0 _ rfl o1 w1.heap.size .u16 (some p) n c xs rfl s1 HA1.out.1 HA1.out.2 hz ?_; intro v2 w2 hO2 hg2 _; have hb2 := b1.grown hg2 hz (fun B hB => (o1.lt B hB).1); clear hg2)
  rw [List.map_nil, List.nil_append, Nat.zero_add] at hO2
  obtain ⟨A2, c2, rfl, hs2⟩ := SlI.of_own (xs := xs) hO2
  go_ret
  exact ⟨A2, _, c2, rfl, hs2, TyAt.of_own hO2, hb2⟩
def TwPost (w : World) (a : ActP) (e : Ending) (w' : World) : Prop := ∃ A1 n1 c1 A2 n2 c2, e = .returned (.agg (a.cells A1 n1 c1 A2 n2 c2)) ∧ SlI w' w'.heap.size .u16 A1 n1 c1 a.regs ∧ SlI w' w'.heap.size .u8 A2 n2 c2 a.data ∧ TyAt w' 45 A1 ∧ TyAt w' 5 A2 ∧ Below w.heap.size w w'
theorem twin_1 (k wait gap : Int) (regs : List Int) (code na unit wth : Int) (data : List Int) (Ar : Option Addr) (nr cr : Nat) (D : Option Addr) (nd cd : Nat) (w : World) (h1 : SlI w w.heap.size .u16 Ar nr cr regs) (h2 : SlI w w.heap.size .u8 D nd cd data) (hn1 : nr ≤ 100000) (hn2 : nd ≤ 100000) :
  Calls Tryd.prog 44 #[.agg #[.int .i64 k, .int .i64 wait, .int .i64 gap, .slice Ar nr cr, .int .i64 code, .int .i64 na, .int .i64 unit, .int .u8 wth, .slice D nd cd]] w (TwPost w ⟨k, wait, gap, regs, code, na, unit, wth, data⟩) := by
 obtain ⟨w1, hw1⟩ : ∃ W, w.alloc (.cells #[.int .i64 k, .int .i64 wait, .int .i64 gap, .slice Ar nr cr, .int .i64 code, .int .i64 na, .int .i64 unit, .int .u8 wth, .slice D nd cd] 29) = W := ⟨_, rfl⟩
 have b1 := zB1 hw1
 have hX1 := zH1 hw1
 have hz1 : w1.heap.size = w.heap.size + 1 := by rw [← hw1]; simp
 obtain ⟨w2, hw2⟩ : ∃ W, w1.alloc (.cells #[.int .i64 0, .int .i64 0, .int .i64 0, .slice none 0 0, .int .i64 0, .int .i64 0, .int .i64 0, .int .u8 0, .slice none 0 0] 29) = W := ⟨_, rfl⟩
 have b2 : Below w.heap.size w w2 := by rw [← hw2]; exact b1.alloc b1.size _
 have hX2 : Held w2 w.heap.size 29 #[.int .i64 k, .int .i64 wait, .int .i64 gap, .slice Ar nr cr, .int .i64 code, .int .i64 na, .int .i64 unit, .int .u8 wth, .slice D nd cd] := by rw [← hw2]; exact hX1.alloc _
 have hY2 : Held w2 (w.heap.size + 1) 29 #[.int .i64 0, .int .i64 0, .int .i64 0, .slice none 0 0, .int .i64 0, .int .i64 0, .int .i64 0, .int .u8 0, .slice none 0 0] := by rw [← hw2, ← hz1]; exact Held.new w1 _ _
 have HC16 := Lib.hid (fun (V : World) (h : Below w.heap.size w V) => clone16t Ar nr cr regs V (h1.up h) hn1)
 have HC8 := Lib.hid (fun (V : World) (h : Below w.heap.size w V) => clone8t D nd cd data V (h2.up h) hn2)
 have HB2 := Lib.hid b2
 have HX2 := Lib.hid hX2
 have HY2 := Lib.hid hY2
 have HW2 := Lib.hid hw2
 obtain ⟨x0, x1, x2, x3, x4, x5, x6, x7, x8⟩ := zC9 hX2
 have hlt := hX2.lt
 clear b1 b2 hX1 hX2 hY2 hw2 h1 h2 hn1 hn2
 go_in
 go_upto_region 1 with fail
 rw [HW2.out]
 clear hw1 HW2
 obtain ⟨wd, hwd⟩ : ∃ W : World, w2.drew = W := ⟨_, rfl⟩
 have hS := zB3 hwd
 have hXd := HX2.out.below hS HX2.out.lt
 obtain ⟨-, -, -, x3, -, -, -, -, x8⟩ := zC9 hXd
 clear hXd
 refine wp_region_held (S := fun _ => True) (by kernel_rfl) ?_
 change wpAnyH _ _ _ _ _ _ _ _ w2.drew
 rw [hwd]
 clear hwd
 have hT : True := trivial
 refine zU 0 rfl hT ?_
 refine zU 3 rfl hT ?_
 refine wpAnyH_ready (rs := [1, 4]) (by kernel_rfl) (by simp) ?_
 refine AllReadyH.cons rfl (fun K' hK' => ?_) (AllReadyH.cons rfl (fun K' hK' => ?_) AllReadyH.nil)
 ·skip
  go_simp
  refine hK'.out _ _ trivial (fun hT => ?_)
  clear hK' K'
  refine wpAnyH_ready (rs := [2, 4]) (by kernel_rfl) (by simp) ?_
  refine AllReadyH.cons rfl (fun K' hK' => ?_) (AllReadyH.cons rfl (fun K' hK' => ?_) AllReadyH.nil)
  ·skip
   go_simp
   refine (HC16.out _ (HB2.out.trans (hS.mono HB2.out.size))).mono ?_
   rintro e V2 ⟨A1, n1, c1, rfl, s1, t1, e1⟩
   dsimp only
   have hXc := HX2.out.below (hS.trans (e1.mono hS.size)) HX2.out.lt
   have hYc := HY2.out.below (hS.trans (e1.mono hS.size)) HY2.out.lt
   obtain ⟨-, -, -, x3, -, -, -, -, x8⟩ := zC9 hXc
   clear hXc hYc
   replace hS := hS.trans (e1.mono hS.size)
   refine hK'.out _ _ trivial (fun hT => ?_)
   clear hK' K'
   refine zR 4 rfl (fun K' hK' => ?_)
   go_simp
   refine hK'.out _ _ trivial (fun hT => ?_)
   clear hK' K'
   refine zU 6 rfl hT ?_
   refine zR 5 rfl (fun K' hK' => ?_)
   go_simp
   refine (HC8.out _ (HB2.out.trans (hS.mono HB2.out.size))).mono ?_
   rintro e V5 ⟨A2, n2, c2, rfl, s2, t2, e2⟩
   dsimp only
   have hXc := HX2.out.below (hS.trans (e2.mono hS.size)) HX2.out.lt
   have hYc := HY2.out.below (hS.trans (e2.mono hS.size)) HY2.out.lt
   obtain ⟨-, -, -, x3, -, -, -, -, x8⟩ := zC9 hXc
   have hF3 := hXc.frozen 3
   have hF8 := hXc.frozen 8
   have hlX := hXc.lt
   have HF := (hXc.set 3 (.slice A1 n1 c1)).set 8 (.slice A2 n2 c2)
   have HR := (hYc.far (p := ⟨w.heap.size, 3, none⟩) (by show w.heap.size + 1 ≠ w.heap.size; omega) (.slice A1 n1 c1)).far (p := ⟨w.heap.size, 8, none⟩) (by show w.heap.size + 1 ≠ w.heap.size; omega) (.slice A2 n2 c2)
   have hBe := ((HB2.out.trans ((hS.trans (e2.mono hS.size)).mono HB2.out.size)).setCell (p := ⟨w.heap.size, 3, none⟩) (Nat.le_refl _) (.slice A1 n1 c1)).setCell (p := ⟨w.heap.size, 8, none⟩) (Nat.le_refl _) (.slice A2 n2 c2)
   have hs5 := (s1.up e2)
   have ht5 := t1.up e2
   have HXV := Lib.hid hXc
   have HFR := Lib.hid (And.intro HF (And.intro HR hBe))
   have HSS := Lib.hid (And.intro hs5 (And.intro ht5 (And.intro s2 t2)))
   clear hXc hYc HF HR hBe s1 s2 t1 t2 hs5 ht5
   replace hS := hS.trans (e2.mono hS.size)
   refine hK'.out _ _ trivial (fun hT => ?_)
   clear hK' K'
   refine zR 7 rfl (fun K' hK' => ?_)
   go_simp
   refine hK'.out _ _ trivial (fun hT => ?_)
   clear hK' K'
   refine zU 8 rfl hT ?_
   refine zR 9 rfl (fun K' hK' => ?_)
   go_simp
   refine hK'.out _ _ trivial (fun hT => ?_)
   clear hK' K'
   refine wpAnyH_done (by kernel_rfl) ?_ _
   obtain ⟨hF, hR, hBe⟩ := HFR.out
   obtain ⟨q1, q2, q3, q4⟩ := HSS.out
   have k1 : KT 29 V5 _ := KT.set (g := w.heap.size) HXV.out 3 (.slice A1 n1 c1)
   have k2 : KT 29 _ _ := KT.set (g := w.heap.size) (HXV.out.set 3 (.slice A1 n1 c1)) 8 (.slice A2 n2 c2)
   replace q1 := (q1.kt q2 k1 (by decide)).kt (q2.kt k1 (by decide)) k2 (by decide)
   replace q3 := (q3.kt q4 k1 (by decide)).kt (q4.kt k1 (by decide)) k2 (by decide)
   replace q2 := (q2.kt k1 (by decide)).kt k2 (by decide)
   replace q4 := (q4.kt k1 (by decide)).kt k2 (by decide)
   generalize (V5.setCell ⟨w.heap.size, 3, none⟩ (.slice A1 n1 c1)).setCell ⟨w.heap.size, 8, none⟩ (.slice A2 n2 c2) = W5 at *
   replace hF : Held W5 w.heap.size 29 #[.int .i64 k, .int .i64 wait, .int .i64 gap, .slice A1 n1 c1, .int .i64 code, .int .i64 na, .int .i64 unit, .int .u8 wth, .slice A2 n2 c2] := hF
   clear k1 k2 x3 x8 hF3 hF8 HFR HSS HXV
   go_wp2_with (first | ((with_reducible refine wpList_load_held 29 (.tmp 1) w.heap.size 29 #[.int .i64 k, .int .i64 wait, .int .i64 gap, .slice A1 n1 c1, .int .i64 code, .int .i64 na, .int .i64 unit, .int .u8 wth, .slice A2 n2 c2] _ (by kernel_rfl) (by kernel_rfl) hF Tryd.underlying29 (by kernel_rfl) (by kernel_rfl) ?_); simp only [Act.put, zC, zD, zE]) | ((with_reducible refine wpList_store_held 29 (.tmp 2) (.tmp 11) (w.heap.size + 1) 29 _ #[.int .i64 k, .int .i64 wait, .int .i64 gap, .slice A1 n1 c1, .int .i64 code, .int .i64 na, .int .i64 unit, .int .u8 wth, .slice A2 n2 c2] (by kernel_rfl) (by kernel_rfl) (by kernel_rfl) hR (by kernel_rfl) (by kernel_rfl) (by kernel_rfl) ?_); intro W9 g9 b9 z9; simp only [Act.put, zC, zD, zE]))
   have k9 : KT 29 W5 W9 := KT.but hR b9
   exact bodyPost_ret (results_c1 rfl _ _ _ _ _ _ (by kernel_rfl) g9 Tryd.underlying29 (by kernel_rfl) (by kernel_rfl)) rfl ⟨A1, n1, c1, A2, n2, c2, rfl, q1.kt q2 k9 (by decide), q3.kt q4 k9 (by decide), q2.kt k9 (by decide), q4.kt k9 (by decide), hBe.trans (b9.below (by omega) hBe.size)⟩
  ·skip
   go_simp
   refine hK'.out _ _ trivial (fun hT => ?_)
   clear hK' K'
   refine zR 2 rfl (fun K' hK' => ?_)
   go_simp
   refine (HC16.out _ (HB2.out.trans (hS.mono HB2.out.size))).mono ?_
   rintro e V2 ⟨A1, n1, c1, rfl, s1, t1, e1⟩
   dsimp only
   have hXc := HX2.out.below (hS.trans (e1.mono hS.size)) HX2.out.lt
   have hYc := HY2.out.below (hS.trans (e1.mono hS.size)) HY2.out.lt
   obtain ⟨-, -, -, x3, -, -, -, -, x8⟩ := zC9 hXc
   clear hXc hYc
   replace hS := hS.trans (e1.mono hS.size)
   refine hK'.out _ _ trivial (fun hT => ?_)
   clear hK' K'
   refine zU 6 rfl hT ?_
   refine zR 5 rfl (fun K' hK' => ?_)
   go_simp
   refine (HC8.out _ (HB2.out.trans (hS.mono HB2.out.size))).mono ?_
   rintro e V5 ⟨A2, n2, c2, rfl, s2, t2, e2⟩
   dsimp only
   have hXc := HX2.out.below (hS.trans (e2.mono hS.size)) HX2.out.lt
   have hYc := HY2.out.below (hS.trans (e2.mono hS.size)) HY2.out.lt
   obtain ⟨-, -, -, x3, -, -, -, -, x8⟩ := zC9 hXc
   have hF3 := hXc.frozen 3
   have hF8 := hXc.frozen 8
   have hlX := hXc.lt
   have HF := (hXc.set 3 (.slice A1 n1 c1)).set 8 (.slice A2 n2 c2)
   have HR := (hYc.far (p := ⟨w.heap.size, 3, none⟩) (by show w.heap.size + 1 ≠ w.heap.size; omega) (.slice A1 n1 c1)).far (p := ⟨w.heap.size, 8, none⟩) (by show w.heap.size + 1 ≠ w.heap.size; omega) (.slice A2 n2 c2)
   have hBe := ((HB2.out.trans ((hS.trans (e2.mono hS.size)).mono HB2.out.size)).setCell (p := ⟨w.heap.size, 3, none⟩) (Nat.le_refl _) (.slice A1 n1 c1)).setCell (p := ⟨w.heap.size, 8, none⟩) (Nat.le_refl _) (.slice A2 n2 c2)
   have hs5 := (s1.up e2)
   have ht5 := t1.up e2
   have HXV := Lib.hid hXc
   have HFR := Lib.hid (And.intro HF (And.intro HR hBe))
   have HSS := Lib.hid (And.intro hs5 (And.intro ht5 (And.intro s2 t2)))
   clear hXc hYc HF HR hBe s1 s2 t1 t2 hs5 ht5
   replace hS := hS.trans (e2.mono hS.size)
   refine hK'.out _ _ trivial (fun hT => ?_)
   clear hK' K'
   refine zR 7 rfl (fun K' hK' => ?_)
   go_simp
   refine hK'.out _ _ trivial (fun hT => ?_)
   clear hK' K'
   refine zU 8 rfl hT ?_
   refine zR 9 rfl (fun K' hK' => ?_)
   go_simp
   refine hK'.out _ _ trivial (fun hT => ?_)
   clear hK' K'
   refine wpAnyH_done (by kernel_rfl) ?_ _
   obtain ⟨hF, hR, hBe⟩ := HFR.out
   obtain ⟨q1, q2, q3, q4⟩ := HSS.out
   have k1 : KT 29 V5 _ := KT.set (g := w.heap.size) HXV.out 3 (.slice A1 n1 c1)
   have k2 : KT 29 _ _ := KT.set (g := w.heap.size) (HXV.out.set 3 (.slice A1 n1 c1)) 8 (.slice A2 n2 c2)
   replace q1 := (q1.kt q2 k1 (by decide)).kt (q2.kt k1 (by decide)) k2 (by decide)
   replace q3 := (q3.kt q4 k1 (by decide)).kt (q4.kt k1 (by decide)) k2 (by decide)
   replace q2 := (q2.kt k1 (by decide)).kt k2 (by decide)
   replace q4 := (q4.kt k1 (by decide)).kt k2 (by decide)
   generalize (V5.setCell ⟨w.heap.size, 3, none⟩ (.slice A1 n1 c1)).setCell ⟨w.heap.size, 8, none⟩ (.slice A2 n2 c2) = W5 at *
   replace hF : Held W5 w.heap.size 29 #[.int .i64 k, .int .i64 wait, .int .i64 gap, .slice A1 n1 c1, .int .i64 code, .int .i64 na, .int .i64 unit, .int .u8 wth, .slice A2 n2 c2] := hF
   clear k1 k2 x3 x8 hF3 hF8 HFR HSS HXV
   go_wp2_with (first | ((with_reducible refine wpList_load_held 29 (.tmp 1) w.heap.size 29 #[.int .i64 k, .int .i64 wait, .int .i64 gap, .slice A1 n1 c1, .int .i64 code, .int .i64 na, .int .i64 unit, .int .u8 wth, .slice A2 n2 c2] _ (by kernel_rfl) (by kernel_rfl) hF Tryd.underlying29 (by kernel_rfl) (by kernel_rfl) ?_); simp only [Act.put, zC, zD, zE]) | ((with_reducible refine wpList_store_held 29 (.tmp 2) (.tmp 11) (w.heap.size + 1) 29 _ #[.int .i64 k, .int .i64 wait, .int .i64 gap, .slice A1 n1 c1, .int .i64 code, .int .i64 na, .int .i64 unit, .int .u8 wth, .slice A2 n2 c2] (by kernel_rfl) (by kernel_rfl) (by kernel_rfl) hR (by kernel_rfl) (by kernel_rfl) (by kernel_rfl) ?_); intro W9 g9 b9 z9; simp only [Act.put, zC, zD, zE]))
   have k9 : KT 29 W5 W9 := KT.but hR b9
   exact bodyPost_ret (results_c1 rfl _ _ _ _ _ _ (by kernel_rfl) g9 Tryd.underlying29 (by kernel_rfl) (by kernel_rfl)) rfl ⟨A1, n1, c1, A2, n2, c2, rfl, q1.kt q2 k9 (by decide), q3.kt q4 k9 (by decide), q2.kt k9 (by decide), q4.kt k9 (by decide), hBe.trans (b9.below (by omega) hBe.size)⟩
 ·skip
  go_simp
  refine hK'.out _ _ trivial (fun hT => ?_)
  clear hK' K'
  refine zR 1 rfl (fun K' hK' => ?_)
  go_simp
  refine hK'.out _ _ trivial (fun hT => ?_)
  clear hK' K'
  refine zR 2 rfl (fun K' hK' => ?_)
  go_simp
  refine (HC16.out _ (HB2.out.trans (hS.mono HB2.out.size))).mono ?_
  rintro e V2 ⟨A1, n1, c1, rfl, s1, t1, e1⟩
  dsimp only
  have hXc := HX2.out.below (hS.trans (e1.mono hS.size)) HX2.out.lt
  have hYc := HY2.out.below (hS.trans (e1.mono hS.size)) HY2.out.lt
  obtain ⟨-, -, -, x3, -, -, -, -, x8⟩ := zC9 hXc
  clear hXc hYc
  replace hS := hS.trans (e1.mono hS.size)
  refine hK'.out _ _ trivial (fun hT => ?_)
  clear hK' K'
  refine zU 6 rfl hT ?_
  refine zR 5 rfl (fun K' hK' => ?_)
  go_simp
  refine (HC8.out _ (HB2.out.trans (hS.mono HB2.out.size))).mono ?_
  rintro e V5 ⟨A2, n2, c2, rfl, s2, t2, e2⟩
  dsimp only
  have hXc := HX2.out.below (hS.trans (e2.mono hS.size)) HX2.out.lt
  have hYc := HY2.out.below (hS.trans (e2.mono hS.size)) HY2.out.lt
  obtain ⟨-, -, -, x3, -, -, -, -, x8⟩ := zC9 hXc
  have hF3 := hXc.frozen 3
  have hF8 := hXc.frozen 8
  have hlX := hXc.lt
  have HF := (hXc.set 3 (.slice A1 n1 c1)).set 8 (.slice A2 n2 c2)
  have HR := (hYc.far (p := ⟨w.heap.size, 3, none⟩) (by show w.heap.size + 1 ≠ w.heap.size; omega) (.slice A1 n1 c1)).far (p := ⟨w.heap.size, 8, none⟩) (by show w.heap.size + 1 ≠ w.heap.size; omega) (.slice A2 n2 c2)
  have hBe := ((HB2.out.trans ((hS.trans (e2.mono hS.size)).mono HB2.out.size)).setCell (p := ⟨w.heap.size, 3, none⟩) (Nat.le_refl _) (.slice A1 n1 c1)).setCell (p := ⟨w.heap.size, 8, none⟩) (Nat.le_refl _) (.slice A2 n2 c2)
  have hs5 := (s1.up e2)
  have ht5 := t1.up e2
  have HXV := Lib.hid hXc
  have HFR := Lib.hid (And.intro HF (And.intro HR hBe))
  have HSS := Lib.hid (And.intro hs5 (And.intro ht5 (And.intro s2 t2)))
  clear hXc hYc HF HR hBe s1 s2 t1 t2 hs5 ht5
  replace hS := hS.trans (e2.mono hS.size)
  refine hK'.out _ _ trivial (fun hT => ?_)
  clear hK' K'
  refine zR 7 rfl (fun K' hK' => ?_)
  go_simp
  refine hK'.out _ _ trivial (fun hT => ?_)
  clear hK' K'
  refine zU 8 rfl hT ?_
  refine zR 9 rfl (fun K' hK' => ?_)
  go_simp
  refine hK'.out _ _ trivial (fun hT => ?_)
  clear hK' K'
  refine wpAnyH_done (by kernel_rfl) ?_ _
  obtain ⟨hF, hR, hBe⟩ := HFR.out
  obtain ⟨q1, q2, q3, q4⟩ := HSS.out
  have k1 : KT 29 V5 _ := KT.set (g := w.heap.size) HXV.out 3 (.slice A1 n1 c1)
  have k2 : KT 29 _ _ := KT.set (g := w.heap.size) (HXV.out.set 3 (.slice A1 n1 c1)) 8 (.slice A2 n2 c2)
  replace q1 := (q1.kt q2 k1 (by decide)).kt (q2.kt k1 (by decide)) k2 (by decide)
  replace q3 := (q3.kt q4 k1 (by decide)).kt (q4.kt k1 (by decide)) k2 (by decide)
  replace q2 := (q2.kt k1 (by decide)).kt k2 (by decide)
  replace q4 := (q4.kt k1 (by decide)).kt k2 (by decide)
  generalize (V5.setCell ⟨w.heap.size, 3, none⟩ (.slice A1 n1 c1)).setCell ⟨w.heap.size, 8, none⟩ (.slice A2 n2 c2) = W5 at *
  replace hF : Held W5 w.heap.size 29 #[.int .i64 k, .int .i64 wait, .int .i64 gap, .slice A1 n1 c1, .int .i64 code, .int .i64 na, .int .i64 unit, .int .u8 wth, .slice A2 n2 c2] := hF
  clear k1 k2 x3 x8 hF3 hF8 HFR HSS HXV
  go_wp2_with (first | ((with_reducible refine wpList_load_held 29 (.tmp 1) w.heap.size 29 #[.int .i64 k, .int .i64 wait, .int .i64 gap, .slice A1 n1 c1, .int .i64 code, .int .i64 na, .int .i64 unit, .int .u8 wth, .slice A2 n2 c2] _ (by kernel_rfl) (by kernel_rfl) hF Tryd.underlying29 (by kernel_rfl) (by kernel_rfl) ?_); simp only [Act.put, zC, zD, zE]) | ((with_reducible refine wpList_store_held 29 (.tmp 2) (.tmp 11) (w.heap.size + 1) 29 _ #[.int .i64 k, .int .i64 wait, .int .i64 gap, .slice A1 n1 c1, .int .i64 code, .int .i64 na, .int .i64 unit, .int .u8 wth, .slice A2 n2 c2] (by kernel_rfl) (by kernel_rfl) (by kernel_rfl) hR (by kernel_rfl) (by kernel_rfl) (by kernel_rfl) ?_); intro W9 g9 b9 z9; simp only [Act.put, zC, zD, zE]))
  have k9 : KT 29 W5 W9 := KT.but hR b9
  exact bodyPost_ret (results_c1 rfl _ _ _ _ _ _ (by kernel_rfl) g9 Tryd.underlying29 (by kernel_rfl) (by kernel_rfl)) rfl ⟨A1, n1, c1, A2, n2, c2, rfl, q1.kt q2 k9 (by decide), q3.kt q4 k9 (by decide), q2.kt k9 (by decide), q4.kt k9 (by decide), hBe.trans (b9.below (by omega) hBe.size)⟩
theorem twin_any (a : ActP) (Ar : Option Addr) (nr cr : Nat) (D : Option Addr) (nd cd : Nat) (w : World) (h1 : SlI w w.heap.size .u16 Ar nr cr a.regs) (h2 : SlI w w.heap.size .u8 D nd cd a.data) (hn1 : nr ≤ 100000) (hn2 : nd ≤ 100000) :
  Calls Tryd.prog 44 #[.agg (a.cells Ar nr cr D nd cd)] w (TwPost w a) := by
 obtain ⟨k, wait, gap, regs, code, na, unit, wth, data⟩ := a
 exact twin_1 k wait gap regs code na unit wth data Ar nr cr D nd cd w h1 h2 hn1 hn2
end Go.Proofs.YtcipleanckeoaaaDoor
