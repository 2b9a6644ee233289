/- The document's Play. Printed by busrefp.py. -/
import Derived.Test.YtcipleanckeoaaaDoorYTk
import Derived.Test.YtcipleanckeoaaaDoorYBusNext
import Derived.Test.YtcipleanckeoaaaDoorYBusRefE
import Derived.Test.YtcipleanckeoaaaDoorYBusPiecesW
import Derived.LoopN
import Derived.Lib.Hide
import Derived.Deep.Cut
import Derived.Deep.CutBlock
import Derived.Test.YtcipleanckeoaaaDoorYBusMem
set_option maxRecDepth 100000
set_option maxHeartbeats 40000000
namespace Go.Proofs.YtcipleanckeoaaaDoor
open Go.RowKit
set_option linter.unusedVariables false
set_option linter.unusedSimpArgs false
def SelS (zs : List (Int × List Int)) (ys outs : List Pc) : Prop := ((outs ++ ys).map (·.idx)).Perm (List.range zs.length) ∧ (outs.map (·.idx)).Pairwise (keyLt zs) ∧ (∀ o ∈ outs, ∀ y ∈ ys, keyLt zs o.idx y.idx) ∧ (ys.map (·.idx)).Pairwise (· < ·)
theorem SelS.start {zs : List (Int × List Int)} {ys : List Pc} (h : ys.map (·.idx) = List.range zs.length) : SelS zs ys [] := ⟨by rw [List.nil_append, h], List.Pairwise.nil, (fun o ho => by cases ho), by rw [h]; exact List.pairwise_lt_range⟩
theorem SelS.step {zs : List (Int × List Int)} {ys outs : List Pc} (h : SelS zs ys outs) (hat : ∀ y ∈ ys, (zAt zs y.idx).1 = y.at_) (b : Nat) (y : Pc) (hb : ys[b]? = some y) (h1 : ∀ j x, j < b → ys[j]? = some x → y.at_ < x.at_) (h2 : ∀ j x, b < j → ys[j]? = some x → y.at_ ≤ x.at_) :
  SelS zs (ys.take b ++ ys.drop (b + 1)) (outs ++ [y]) := by
 obtain ⟨p1, p2, p3, p4⟩ := h
 obtain ⟨hbl, hbe⟩ := List.getElem?_eq_some_iff.1 hb
 have e : ys = ys.take b ++ y :: ys.drop (b + 1) := by
  rw [← hbe, ← List.drop_eq_getElem_cons hbl, List.take_append_drop]
 have hy : y ∈ ys := List.mem_of_getElem? hb
 have hsub : ∀ x ∈ ys.take b ++ ys.drop (b + 1), x ∈ ys := fun x hx => by
  rcases List.mem_append.1 hx with h | h
  ·exact List.mem_of_mem_take h
  ·exact List.mem_of_mem_drop h
 have hs : (ys.take b ++ ys.drop (b + 1)).Sublist ys := by
  conv => rhs; rw [e]
  exact List.Sublist.append (List.Sublist.refl _) (List.sublist_cons_self _ _)
 refine ⟨?_, ?_, ?_, p4.sublist (hs.map _)⟩
 ·refine List.Perm.trans (List.Perm.map _ ?_) p1
  rw [List.append_assoc]
  refine List.Perm.append_left _ ?_
  conv => rhs; rw [e]
  show (y :: (ys.take b ++ ys.drop (b + 1))).Perm (ys.take b ++ y :: ys.drop (b + 1))
  exact List.perm_middle.symm
 ·rw [List.map_append, List.pairwise_append]
  refine ⟨p2, List.pairwise_singleton _ _, fun a ha c hc => ?_⟩
  obtain ⟨o, ho, rfl⟩ := List.mem_map.1 ha
  obtain rfl : c = y.idx := by simpa using hc
  exact p3 o ho y hy
 ·intro o ho x hx
  rcases List.mem_append.1 ho with h | h
  ·exact p3 o h x (hsub x hx)
  ·rw [List.mem_singleton.1 h]
   have ax := hat x (hsub x hx)
   have ay := hat y hy
   unfold keyLt
   rw [ax, ay]
   rcases List.mem_append.1 hx with hx | hx
   ·obtain ⟨j, hj⟩ := List.mem_iff_getElem?.1 hx
    rw [List.getElem?_take] at hj
    split at hj
    ·rename_i hjb
     exact .inl (h1 j x hjb hj)
    ·cases hj
   ·obtain ⟨j, hj⟩ := List.mem_iff_getElem?.1 hx
    rw [List.getElem?_drop] at hj
    have := h2 (b + 1 + j) x (by omega) hj
    rcases Int.lt_or_eq_of_le this with q | q
    ·exact .inl q
    ·refine .inr ⟨q, ?_⟩
     have hp : (ys.map (·.idx)).Pairwise (· < ·) := p4
     rw [e, List.map_append, List.pairwise_append, List.map_cons, List.pairwise_cons] at hp
     exact hp.2.1.1 x.idx (List.mem_map_of_mem hx)
theorem SelS.done {zs : List (Int × List Int)} {outs : List Pc} (h : SelS zs [] outs) : SortedOf zs (outs.map fun y => zAt zs y.idx) := ⟨outs.map (·.idx), by simpa using h.1, h.2.1, by rw [List.map_map]; rfl⟩
def MinB (ys : List Pc) (i b : Nat) : Prop := ∃ y, ys[b]? = some y ∧ b < i ∧ (∀ j x, j < b → ys[j]? = some x → y.at_ < x.at_) ∧ ∀ j x, b < j → j < i → ys[j]? = some x → y.at_ ≤ x.at_
theorem MinB.start {ys : List Pc} (h : 0 < ys.length) : MinB ys 1 0 := ⟨ys[0], List.getElem?_eq_getElem h, by omega, fun j x h => by omega, fun j x h => by omega⟩
theorem MinB.keep {ys : List Pc} {i b : Nat} {x y : Pc} (h : MinB ys i b) (hy : ys[b]? = some y) (hx : ys[i]? = some x) (q : ¬ x.at_ < y.at_) : MinB ys (i + 1) b := by
 obtain ⟨y', hy', h1, h2, h3⟩ := h
 rw [hy] at hy'; cases hy'
 refine ⟨y, hy, by omega, h2, fun j z q1 q2 hz => ?_⟩
 by_cases hj : j = i
 ·subst hj
  rw [hx] at hz; cases hz
  omega
 ·exact h3 j z q1 (by omega) hz
theorem MinB.turn {ys : List Pc} {i b : Nat} {x y : Pc} (h : MinB ys i b) (hy : ys[b]? = some y) (hx : ys[i]? = some x) (q : x.at_ < y.at_) : MinB ys (i + 1) i := by
 obtain ⟨y', hy', h1, h2, h3⟩ := h
 rw [hy] at hy'; cases hy'
 refine ⟨x, hx, by omega, fun j z q1 hz => ?_, fun j z q1 q2 => by omega⟩
 rcases Nat.lt_trichotomy j b with e | e | e
 ·have := h2 j z e hz; omega
 ·subst e
  rw [hy] at hz; cases hz
  exact q
 ·have := h3 j z e q1 hz; omega
theorem rowC_append (a b : List Pc) : rowC (a ++ b) = rowC a ++ rowC b := by simp [rowC]
theorem rowC_take (ys : List Pc) (b : Nat) : rowC (ys.take b) = (rowC ys).take (b * 2) := by
 by_cases h : b ≤ ys.length
 ·conv => rhs; rw [← List.take_append_drop b ys, rowC_append]
  rw [List.take_left' (by rw [rowC_len, List.length_take]; omega)]
 ·rw [List.take_of_length_le (by omega), List.take_of_length_le (by rw [rowC_len]; omega)]
theorem rowC_drop (ys : List Pc) (b : Nat) : rowC (ys.drop b) = (rowC ys).drop (b * 2) := by
 by_cases h : b ≤ ys.length
 ·conv => rhs; rw [← List.take_append_drop b ys, rowC_append]
  rw [List.drop_left' (by rw [rowC_len, List.length_take]; omega)]
 ·rw [List.drop_eq_nil_of_le (by omega), List.drop_eq_nil_of_le (by rw [rowC_len]; omega)]; rfl
theorem rowC_u8 (ys : List Pc) : ∀ u ∈ rowC ys, NoU8 u := fun u hu => by
 obtain ⟨y, _, h⟩ := List.mem_flatMap.1 hu
 simp only [Pc.cells, List.mem_cons, List.not_mem_nil, or_false] at h
 rcases h with rfl | rfl <;> intro x e <;> cases e
theorem rowC_1 (ys : List Pc) : ∀ u ∈ rowC ys, u.oneCell' = true := fun u hu => by
 obtain ⟨y, _, h⟩ := List.mem_flatMap.1 hu
 simp only [Pc.cells, List.mem_cons, List.not_mem_nil, or_false] at h
 rcases h with rfl | rfl <;> rfl
def RowP (zs : List (Int × List Int)) (X : World) (B : Nat) (v : Value) (ys : List Pc) : Prop := X.ownsRow B 51 2 v ys.length (rowC ys) ∧ AllC X v NoU8 ∧ HoldsP zs X ys
theorem RowP.nil (zs : List (Int × List Int)) (X : World) (B : Nat) : RowP zs X B (.slice none 0 0) [] := ⟨World.ownsRow_nil _ _ _ _, AllC.none _ _, fun y h => by cases h⟩
theorem RowP.up {zs : List (Int × List Int)} {X Y : World} {B : Nat} {v : Value} {ys : List Pc} (h : RowP zs X B v ys) (hb : Below X.heap.size X Y) : RowP zs Y B v ys := ⟨lown_up h.1 hb, h.2.1.same (fun g hg => hb.block g (h.1.lt g hg).2), h.2.2.k8 (K8.below hb)⟩
theorem RowP.other {zs : List (Int × List Int)} {X Y : World} {B : Nat} {v u : Value} {ys : List Pc} (h : RowP zs X B v ys) (hg : X.grownBy Y u.ownBlock) (hq : AllC X u NoU8) (hd : ∀ g, v.ownBlock = some g → u.ownBlock ≠ some g) : RowP zs Y B v ys := by
 have hk : ∀ g, v.ownBlock = some g → Y.heap[g]? = X.heap[g]? := fun g e => hg.block g (h.1.lt g e).2 (fun q => hd g e q.symm)
 exact ⟨lown_same h.1 hk, h.2.1.same hk, h.2.2.k8 (K8.grown hg hq)⟩
theorem RowP.app {zs : List (Int × List Int)} {X Y : World} {B m : Nat} {v v' : Value} {ys ps : List Pc} (h : RowP zs X B v ys) (hp : HoldsP zs X ps) (hg : X.grownBy Y v.ownBlock) (hm : ps.length = m) (ho : Y.ownsRow B 51 2 v' (ys.length + m) (rowC ys ++ rowC ps)) (hq : AllC Y v' NoU8) : RowP zs Y B v' (ys ++ ps) := by
 refine ⟨by rw [List.length_append, hm, rowC_append]; exact ho, hq, fun y hy => ?_⟩
 have hk := K8.grown hg h.2.1
 rcases List.mem_append.1 hy with e | e
 ·exact h.2.2.k8 hk y e
 ·exact hp.k8 hk y e
theorem HoldsP.more {zs ws : List (Int × List Int)} {X : World} {ys : List Pc} (h : HoldsP zs X ys) : HoldsP (zs ++ ws) X ys := fun y hy => by
 obtain ⟨d, e1, e2⟩ := h y hy
 exact ⟨d, by rw [List.getElem?_append_left (List.getElem?_eq_some_iff.mp e1).1]; exact e1, e2⟩
theorem RowP.more {zs ws : List (Int × List Int)} {X : World} {B : Nat} {v : Value} {ys : List Pc} (h : RowP zs X B v ys) : RowP (zs ++ ws) X B v ys := ⟨h.1, h.2.1, h.2.2.more⟩
theorem RowP.form {zs : List (Int × List Int)} {X : World} {B : Nat} {v : Value} {ys : List Pc} (h : RowP zs X B v ys) : ∃ A c, v = .slice A ys.length c := by
 obtain ⟨A, c, e, _⟩ := own_form h.1
 exact ⟨A, c, e⟩
theorem RowP.some_ {zs : List (Int × List Int)} {X : World} {B : Nat} {v : Value} {ys : List Pc} (h : RowP zs X B v ys) (hn : 0 < ys.length) : ∃ g c, v = .slice (some ⟨g, 0, none⟩) ys.length c ∧ g < X.heap.size ∧ ys.length ≤ c ∧ c ≤ maxLen ∧ B ≤ g ∧ ∀ i u, (rowC ys)[i]? = some u → X.cell? ⟨g, i, none⟩ = some u := by
 obtain ⟨g, c, rfl, h1, h2, h3, h4⟩ := own_pos h.1 hn
 refine ⟨g, c, rfl, h2, h3, h4, h1, fun i u hu => ?_⟩
 rw [h.1.cellAt i (by rw [← h.1.1]; exact (List.getElem?_eq_some_iff.1 hu).1)]
 exact hu
theorem slv_take {X : World} {g n c : Nat} {cs : List Value} (hg : g < X.heap.size) (hc : ∀ i u, cs[i]? = some u → X.cell? ⟨g, i, none⟩ = some u) (hl : cs.length = n * 2) (h1 : n ≤ c) (h2 : c ≤ maxLen) (b : Nat) (hb : b ≤ n) : SlV X X.heap.size (some ⟨g, 0, none⟩) b c 2 (cs.take (b * 2)) :=
 ⟨by rw [List.length_take]; omega, by omega, h2, (fun e => by cases e), fun _ => ⟨g, 0, rfl, hg, fun i x hx => by
  rw [Nat.zero_add]
  rw [List.getElem?_take] at hx
  split at hx
  ·exact hc i x hx
  ·cases hx⟩⟩
theorem slv_drop {X : World} {g n c : Nat} {cs : List Value} (hg : g < X.heap.size) (hc : ∀ i u, cs[i]? = some u → X.cell? ⟨g, i, none⟩ = some u) (hl : cs.length = n * 2) (h1 : n ≤ c) (h2 : c ≤ maxLen) (b : Nat) (hb : b ≤ n) (L : Addr) (hL : b < n → L = ⟨g, b * 2, none⟩) : SlV X X.heap.size (some L) (n - b) (c - b) 2 (cs.drop (b * 2)) :=
 ⟨by rw [List.length_drop]; omega, by omega, by omega, (fun e => by cases e), fun h => by
  rw [List.length_drop] at h
  refine ⟨g, b * 2, by rw [hL (by omega)], hg, fun i x hx => hc _ x (by rw [List.getElem?_drop] at hx; exact hx)⟩⟩
theorem RowP.pcs {zs : List (Int × List Int)} {X : World} {B : Nat} {v : Value} {ys : List Pc} (h : RowP zs X B v ys) : ∃ R c, v = .slice R ys.length c ∧ PcsI X R ys.length c (ys.map fun y => zAt zs y.idx) := by
 obtain ⟨A, c, rfl, h1, h2⟩ := own_form h.1
 refine ⟨A, c, rfl, by simp, h1, h2, fun e => ?_, fun hn => ?_⟩
 ·subst e
  rcases h.1.2 with ⟨q, hk⟩ | ⟨g, cap, cur, q, _⟩
  ·injection q with _ _ hc
   exact ⟨hk, hc⟩
  ·cases q
 ·obtain ⟨g, c', hv, hg, _, _, _, hc⟩ := h.some_ hn
  injection hv with hv
  subst hv
  refine ⟨g, rfl, hg, fun i z hz => ?_⟩
  rw [List.getElem?_map] at hz
  obtain ⟨y, hy, rfl⟩ := Option.map_eq_some_iff.1 hz
  obtain ⟨d, e1, e2⟩ := h.2.2 y (List.mem_of_getElem? hy)
  have ez : zAt zs y.idx = (y.at_, d) := by
   unfold zAt
   rw [List.getD_eq_getElem?_getD, e1]; rfl
  obtain ⟨k1, k2⟩ := rowC_at ys i y hy
  rw [ez]
  exact ⟨y.A, y.n, y.c, hc _ _ k1, hc _ _ k2, e2⟩
theorem RowP.at_ {zs : List (Int × List Int)} {X : World} {B g n c : Nat} {ys : List Pc} (h : RowP zs X B (.slice (some ⟨g, 0, none⟩) n c) ys) (hn : 0 < ys.length) : g < X.heap.size ∧ ys.length ≤ c ∧ c ≤ maxLen ∧ ∀ i u, (rowC ys)[i]? = some u → X.cell? ⟨g, i, none⟩ = some u := by
 obtain ⟨g', c', hv, h1, h2, h3, _, h4⟩ := h.some_ hn
 injection hv with e1 _ e2
 injection e1 with e1
 injection e1 with e1
 subst e1 e2
 exact ⟨h1, h2, h3, h4⟩
theorem HoldsP.at_ {zs : List (Int × List Int)} {X : World} {ys : List Pc} (h : HoldsP zs X ys) : ∀ y ∈ ys, (zAt zs y.idx).1 = y.at_ := fun y hy => by
 obtain ⟨d, hd, _⟩ := h y hy
 unfold zAt
 rw [List.getD_eq_getElem?_getD, hd]; rfl
attribute [local go_sem] Oper.semAt_some
theorem w64_at (a : Int) (h1 : -9223372036854775808 ≤ a) (h2 : a ≤ 9223372036854775807) : wrap64 a = a := by
 unfold wrap64
 omega
theorem half_at (m h : Nat) (hm : m ≤ 300) (hh : m / 2 = h) : wrap64 ((m : Int).tdiv 2) = (h : Int) := by
 rw [Int.tdiv_eq_ediv_of_nonneg (by omega), w64_at _ (by omega) (by omega)]
 omega
theorem half_facts (m cb h : Nat) (hm : m ≤ 300) (h1 : 1 < m) (hcb : m ≤ cb) (hh : m / 2 = h) : h ≤ m ∧ (h : Int) ≤ (m : Int) ∧ (m : Int) ≤ (cb : Int) ∧ (h : Int) ≤ (cb : Int) ∧ h ≤ cb ∧ h < cb ∧ (0 : Int) ≤ (h : Int) ∧ wrap64 ((m : Int).tdiv 2) = (h : Int) ∧ (m : Int) / 2 = (h : Int) ∧ wrap64 (h : Int) = (h : Int) ∧ ¬ cb = h ∧ decide ((m : Int) < 2) = false ∧ decide (m < 2) = false :=
 ⟨by omega, by omega, by omega, by omega, by omega, by omega, by omega, half_at m h hm hh, by omega, w64_at _ (by omega) (by omega), by omega, decide_eq_false (by omega), decide_eq_false (by omega)⟩
theorem zpNo : ∀ u ∈ (Value.cells (.agg #[.int .i64 0, .slice none 0 0])).toList, NoU8 u := fun u hu => by
 simp only [Value.cells, List.mem_cons, List.not_mem_nil, or_false] at hu
 rcases hu with rfl | rfl <;> intro x e <;> cases e
theorem rplay_arg (t : Int) (A : Option Addr) (n c : Nat) (L : Option Addr) (nl cl : Nat) (w : World) (ht : t < 0 ∨ 2305843009213693952 < t) :
  Calls Tryd.prog 14 #[.int .i64 t, .slice A n c, .slice L nl cl] w fun e w' => e = .returned (.tuple #[.slice none 0 0, .int .i64 2]) ∧ Below w.heap.size w w' := by
 by_cases h0 : t < 0
 ·have d1 : decide (t < 0) = true := decide_eq_true h0
  go_in
  go_wp2_with fail
  go_ret2
  exact ⟨rfl, Below.refl _ _⟩
 ·have d1 : decide (t < 0) = false := decide_eq_false h0
  have d2 : decide (2305843009213693952 < t) = true := decide_eq_true (by omega)
  go_in
  go_wp2_with fail
  go_ret2
  exact ⟨rfl, Below.refl _ _⟩
theorem wp_append_slq {P : Program} (w : World) {o : Oper} {a : Act} {K' : Act → World → Prop} {Q : Exit → Act → World → Prop} (s x : Operand) (t : TypeId)
  (ho : o.op = .call { callee := .builtin .append, args := #[s, x], argTypes := #[t, t] })
  (base : Nat) (e : TypeId) (i : TypeInfo) (z : Value) (size bytes : Nat) (ht : P.underlying t = some (.slice e)) (hi : P.info? e = some i) (hz : i.zero = some z)
  (hsize : i.size = size) (hby : i.bytes = bytes) (hzs : z.cells.size = size) (hsz : 0 < size) (K : Value → Prop) (hzq : ∀ u ∈ z.cells.toList, K u)
  (v : Value) (n : Nat) (xs : List Value) (hs : a.eval s = v) (hown : w.ownsRow base e size v n xs) (hq : AllC w v K)
  (B : Nat) (ad : Addr) (m c : Nat) (ys : List Value) (hx : a.eval x = .slice (some ad) m c) (hr : SlV w B (some ad) m c size ys) (h1 : ∀ u ∈ ys, u.oneCell' = true) (hyq : ∀ u ∈ ys, K u)
  (h63 : n + m ≤ maxLen) (hbytes : (n + m) * bytes ≤ 140737488355328) (hbase : base ≤ w.heap.size)
  (h : ∀ v' w', w'.ownsRow base e size v' (n + m) (xs ++ ys) → w.grownBy w' v.ownBlock → (v'.ownBlock = v.ownBlock ∨ v'.ownBlock = some w.heap.size) → AllC w' v' K → K' (a.put o.dst v') w') : Oper.wp P o a w K' Q := by
 obtain ⟨v', w', hr2, h2, h3, h4, h5⟩ := run_append_slq (P := P) w base t o.type e i z size bytes ht hi hz hsize hby hzs hsz K hzq v n xs hown hq B ad m c ys hr h1 hyq h63 hbytes hbase
 unfold Oper.wp execOp
 simp only [ho, resolve, invoke, builtin, Sem.run_bind, Sem.run_pure, Result.andThen_ok, List.map_toArray, List.map_cons, List.map_nil, hs, hx, hr2]
 exact h v' w' h2 h3 h4 h5
def lenV : Value → Nat
 | .slice _ n _ => n
 | _ => 0
def Pl2 (zs : List (Int × List Int)) (w : World) (v v' : Value) (ys outs : List Pc) (Y : World) : Prop := RowP zs Y w.heap.size v ys ∧ RowP zs Y w.heap.size v' outs ∧ (∀ g, v.ownBlock = some g → v'.ownBlock ≠ some g) ∧ SelS zs ys outs ∧ Below w.heap.size w Y ∧ ys.length + outs.length ≤ 40
theorem Pl2.up {zs : List (Int × List Int)} {w : World} {v v' : Value} {ys outs : List Pc} {Y Z : World} (h : Pl2 zs w v v' ys outs Y) (hb : Below Y.heap.size Y Z) : Pl2 zs w v v' ys outs Z := ⟨h.1.up hb, h.2.1.up hb, h.2.2.1, h.2.2.2.1, h.2.2.2.2.1.trans (hb.mono h.2.2.2.2.1.size), h.2.2.2.2.2⟩
theorem bnd0 {k : Nat} (h : k ≤ 40) : 0 + k ≤ maxLen ∧ (0 + k) * 32 ≤ 140737488355328 := ⟨by unfold maxLen; omega, by omega⟩
theorem bnd1 {k : Nat} (h : k ≤ 40) : k + 1 ≤ maxLen ∧ (k + 1) * 32 ≤ 140737488355328 := ⟨by unfold maxLen; omega, by omega⟩
theorem bnd2 {a k : Nat} (h : a + k ≤ 40) : a + k ≤ maxLen ∧ (a + k) * 32 ≤ 140737488355328 := ⟨by unfold maxLen; omega, by omega⟩
theorem sel_len (ys : List Pc) (b : Nat) (h : b + 1 ≤ ys.length) : (ys.take b).length = b ∧ (ys.take b ++ ys.drop (b + 1)).length = ys.length - 1 ∧ (ys.take b).length + (ys.length - (b + 1)) = ys.length - 1 := by
 rw [List.length_append, List.length_take, List.length_drop]
 omega
theorem sel_facts {N m b c : Nat} (h40 : N + m ≤ 40) (hb : b < N) (hc : N ≤ c) : m ≤ 40 ∧ b ≤ N ∧ b ≤ 40 ∧ (b : Int) < (N : Int) ∧ (b : Int) + 1 ≤ (N : Int) ∧ (N : Int) ≤ (c : Int) ∧ (wrap64 ((b : Int) + 1) = (b : Int) + 1 ∧ IntKind.i64.wrap ((b : Int) + 1) = (b : Int) + 1) ∧ (b : Int) ≤ (c : Int) ∧ b ≤ c ∧ (b : Int) + 1 ≤ (c : Int) ∧ N - 1 ≤ 40 :=
 ⟨by omega, by omega, by omega, by omega, by omega, by omega, ⟨w64_at _ (by omega) (by omega), IntWalk.i64_in _ (by omega)⟩, by omega, by omega, by omega, by omega⟩
theorem sel_facts1 {N b : Nat} (hc : N ≤ b + 1) : (N : Int) ≤ (b : Int) + 1 ∧ (b : Int) ≤ (b : Int) + 1 := ⟨by omega, by omega⟩
theorem below_none {X Y : World} (h : X.grownBy Y none) : Below X.heap.size X Y := (Below.refl _ X).grown h (Nat.le_refl _) (fun j hj => by cases hj)
theorem sel_one {zs : List (Int × List Int)} {w : World} {v v' v6 : Value} {ys outs : List Pc} {X Y : World} {y : Pc} (h : Pl2 zs w v v' ys outs X) (hy : y ∈ ys) (g6 : X.grownBy Y v'.ownBlock) (f6 : v6.ownBlock = v'.ownBlock ∨ v6.ownBlock = some X.heap.size) (o6 : Y.ownsRow w.heap.size 51 2 v6 (outs.length + 1) (rowC outs ++ [.int .i64 y.at_, .slice y.A y.n y.c])) (q6 : AllC Y v6 NoU8) :
  RowP zs Y w.heap.size v6 (outs ++ [y]) ∧ RowP zs Y w.heap.size v ys ∧ (∀ g, v.ownBlock = some g → v6.ownBlock ≠ some g) ∧ Below w.heap.size w Y := by
 refine ⟨h.2.1.app (ps := [y]) (fun z hz => by rw [List.mem_singleton.1 hz]; exact h.1.2.2 y hy) g6 rfl o6 q6, h.1.other g6 h.2.1.2.1 h.2.2.1, fun g hg e => ?_, h.2.2.2.2.1.grown g6 h.2.2.2.2.1.size (fun j hj => (h.2.1.1.lt j hj).1)⟩
 have h1 := (h.1.1.lt g hg).2
 rcases f6 with f | f
 ·rw [f] at e; exact h.2.2.1 g hg e
 ·rw [f] at e; injection e with e; omega
theorem sel_two {zs : List (Int × List Int)} {w : World} {v v6 v7 : Value} {ys outs : List Pc} {X Y : World} {b : Nat} (h1 : RowP zs X w.heap.size v6 outs) (h2 : RowP zs X w.heap.size v ys) (hb : Below w.heap.size w X) (hbN : b ≤ ys.length) (g7 : X.grownBy Y (Value.slice none 0 0).ownBlock) (f7 : v7.ownBlock = (Value.slice none 0 0).ownBlock ∨ v7.ownBlock = some X.heap.size)
  (o7 : Y.ownsRow w.heap.size 51 2 v7 (0 + b) ([] ++ (rowC ys).take (b * 2))) (q7 : AllC Y v7 NoU8) : RowP zs Y w.heap.size v7 (ys.take b) ∧ RowP zs Y w.heap.size v6 outs ∧ RowP zs Y w.heap.size v ys ∧ (∀ g, v7.ownBlock = some g → v6.ownBlock ≠ some g) ∧ Below w.heap.size w Y := by
 have hg : Below X.heap.size X Y := below_none g7
 have h2' := h2.up hg
 refine ⟨⟨?_, q7, fun y hy => h2'.2.2 y (List.mem_of_mem_take hy)⟩, h1.up hg, h2', fun g e1 e2 => ?_, hb.trans (hg.mono hb.size)⟩
 ·rw [List.length_take, Nat.min_eq_left hbN, rowC_take]
  rw [Nat.zero_add, List.nil_append] at o7
  exact o7
 ·have h3 := (h1.1.lt g e2).2
  rcases f7 with f | f
  ·rw [f] at e1; cases e1
  ·rw [f] at e1; injection e1 with e1; omega
theorem sel_three {zs : List (Int × List Int)} {w : World} {v v' v6 v7 v8 : Value} {ys outs : List Pc} {Z X Y : World} {b : Nat} {y : Pc} (h : Pl2 zs w v v' ys outs Z) (hmb : MinB ys ys.length b) (hy : ys[b]? = some y) (h7 : RowP zs X w.heap.size v7 (ys.take b)) (h6 : RowP zs X w.heap.size v6 (outs ++ [y])) (hd : ∀ g, v7.ownBlock = some g → v6.ownBlock ≠ some g) (hb : Below w.heap.size w X) (hbN : b + 1 ≤ ys.length)
  (g8 : X.grownBy Y v7.ownBlock) (f8 : v8.ownBlock = v7.ownBlock ∨ v8.ownBlock = some X.heap.size) (o8 : Y.ownsRow w.heap.size 51 2 v8 ((ys.take b).length + (ys.length - (b + 1))) (rowC (ys.take b) ++ (rowC ys).drop ((b + 1) * 2))) (q8 : AllC Y v8 NoU8)
  (hx : HoldsP zs X ys) : Pl2 zs w v8 v6 (ys.take b ++ ys.drop (b + 1)) (outs ++ [y]) Y := by
 obtain ⟨y', hy', _, m1, m2⟩ := hmb
 rw [hy] at hy'; cases hy'
 refine ⟨h7.app (m := ys.length - (b + 1)) (ps := ys.drop (b + 1)) (fun z hz => hx z (List.mem_of_mem_drop hz)) g8 (by simp) (by rw [rowC_drop]; exact o8) q8, h6.other g8 h7.2.1 (fun g e1 e2 => hd g e2 e1), fun g e1 e2 => ?_, h.2.2.2.1.step h.1.2.2.at_ b y hy m1 (fun j x q e => m2 j x q (List.getElem?_eq_some_iff.1 e).1 e), hb.grown g8 hb.size (fun j hj => (h7.1.lt j hj).1), ?_⟩
 ·rcases f8 with f | f
  ·rw [f] at e1; exact hd g e1 e2
  ·rw [f] at e1; injection e1 with e1
   have := (h6.1.lt g e2).2; omega
 ·have := h.2.2.2.2.2
  rw [List.length_append, List.length_append, List.length_take, List.length_drop]
  simp; omega
def Pl1 (t : Int) (req : List Int) (l : List ActP) (w : World) (i : Nat) (v : Value) (X : World) : Prop := ∃ ys, RowP (playL t req (l.take i)) X w.heap.size v ys ∧ ys.map (·.idx) = List.range (playL t req (l.take i)).length ∧ Below w.heap.size w X
theorem Pl1.app {t : Int} {req : List Int} {l : List ActP} {w X Y : World} {i m : Nat} {v v' : Value} {ys : List Pc} {a : ActP} (ps : List Pc) (hR : RowP (playL t req (l.take i)) X w.heap.size v ys) (hx : ys.map (·.idx) = List.range (playL t req (l.take i)).length) (ha : l[i]? = some a) (hm : ps.length = m)
  (hi : ps.map (·.idx) = (List.range m).map fun j => (playL t req (l.take i)).length + j) (hp : HoldsP (playL t req (l.take i) ++ actL t req a) X ps) (hl : (actL t req a).length = m) (hg : X.grownBy Y v.ownBlock) (ho : Y.ownsRow w.heap.size 51 2 v' (ys.length + m) (rowC ys ++ rowC ps)) (hq : AllC Y v' NoU8) (hb : Below w.heap.size w Y) : Pl1 t req l w (i + 1) v' Y := by
 refine ⟨ys ++ ps, ?_, ?_, hb⟩
 ·rw [playL_next t req l i a ha]
  exact hR.more.app hp hg hm ho hq
 ·rw [playL_next t req l i a ha, List.map_append, hx, hi, List.length_append, hl, List.range_add]
theorem rplay_1 (t : Int) (A : Option Addr) (n c : Nat) (req : List Int) (L : Option Addr) (nl cl : Nat) (l : List ActP) (w : World) (hS : SlI w w.heap.size .u8 A n c req) (hn : n ≤ 1000) (h8 : Byte8 req) (hA : ActsI w L nl cl l) (hok : ActsOk l) (h20 : nl ≤ 20) (ht : 0 ≤ t ∧ t ≤ 2305843009213693952) (hm : l.all mayA = true) :
  Calls Tryd.prog 14 #[.int .i64 t, .slice A n c, .slice L nl cl] w (PlPost w t req l) := by
 have d1 : decide (t < 0) = false := decide_eq_false (by omega)
 have d2 : decide (2305843009213693952 < t) = false := decide_eq_false (by omega)
 have hll := hA.1
 have HA := Lib.hid hA
 have HMY := Lib.hid (fun (v : Value) (a : ActP) (V : World) (h1 : ActAt V v a) (h2 : a.ok) => rmay_any v a V h1 h2)
 have HBY := Lib.hid (fun (v : Value) (a : ActP) (V : World) (h : Below w.heap.size w V) (h1 : ActAt V v a) (h2 : a.ok) => docbytes_any A n c req v a V (hS.up h) hn h8 h1 h2)
 have HOK := Lib.hid hok
 have HM := Lib.hid (fun (a : ActP) (h : a ∈ l) => List.all_eq_true.mp hm a h)
 obtain ⟨i0, hi, hz0, hz1, hz2⟩ := info_parts infoP
 clear hS h8 hA hok hm
 go_in
 go_wp2_with fail
 go_loopw [8, 9] (fun u8 u9 X => ∃ (X0 : World) (i : Nat), X0 = X ∧ i ≤ nl ∧ u9 = .int .i64 i ∧ Pl1 t req l w i u8 X0) (fun _ u9 _ => nl - (intOf u9).toNat)
 case atStart => exact ⟨_, 0, rfl, by omega, rfl, [], RowP.nil _ _ _, rfl, Below.refl _ _⟩
 case round =>
  obtain ⟨X, i, hXe, hil, rfl, ys, hR, hxx, hb⟩ := hrel
  subst hXe
  have HR := Lib.hid hR
  have HXX := Lib.hid hxx
  have HB := Lib.hid hb
  obtain ⟨A8, c8, rfl⟩ := hR.form
  clear hR hxx
  by_cases hlt : i < nl
  ·obtain ⟨a, ha⟩ : ∃ a, l[i]? = some a := ⟨_, List.getElem?_eq_getElem (by omega)⟩
   obtain ⟨g, off, rfl, hg, hc⟩ := HA.out.2.2.2.2 (by omega)
   obtain ⟨Ar, nr, cr, D, nd, cd, k1, k2, k3⟩ := hc i a ha
   obtain ⟨c0, c1, c2, c3, c4, c5, c6, c7, c8'⟩ := act_cells k1
   have hok := HOK.out a (List.mem_of_getElem? ha)
   have hmay := HM.out a (List.mem_of_getElem? ha)
   have hC := Lib.hid (show ∀ V, Below w.heap.size w V → V.cell? ⟨g, off + i * 9, none⟩ = some (.int .i64 a.kind) ∧ V.cell? ⟨g, off + i * 9 + 1, none⟩ = some (.int .i64 a.wait) ∧ V.cell? ⟨g, off + i * 9 + 2, none⟩ = some (.int .i64 a.gap) ∧ V.cell? ⟨g, off + i * 9 + 3, none⟩ = some (.slice Ar nr cr) ∧ V.cell? ⟨g, off + i * 9 + 4, none⟩ = some (.int .i64 a.code) ∧
    V.cell? ⟨g, off + i * 9 + 5, none⟩ = some (.int .i64 a.n) ∧ V.cell? ⟨g, off + i * 9 + 6, none⟩ = some (.int .i64 a.unit) ∧ V.cell? ⟨g, off + i * 9 + 7, none⟩ = some (.int .u8 a.wth) ∧ V.cell? ⟨g, off + i * 9 + 8, none⟩ = some (.slice D nd cd) from fun V h =>
    act_cells (fun j v hv => (h.cell (p := ⟨g, off + i * 9 + j, none⟩) hg).trans (k1 j v hv)))
   have HC1 := Lib.hid (fun (V : World) (h : Below w.heap.size w V) => HMY.out (.agg (a.cells Ar nr cr D nd cd)) a V ⟨Ar, nr, cr, D, nd, cd, rfl, k2.up h, k3.up h⟩ hok)
   have HC2 := Lib.hid (fun (V : World) (h : Below w.heap.size w V) => HBY.out (.agg (a.cells Ar nr cr D nd cd)) a V h ⟨Ar, nr, cr, D, nd, cd, rfl, k2.up h, k3.up h⟩ hok)
   rw [hmay] at HC1
   unfold ActP.cells at HC1 HC2
   have hq : mayQ a := of_decide_eq_true hmay
   have hw1 := hq.2.1
   have hw2 := hq.2.2.1
   have HAI := Lib.hid ha
   have hwr : wrap64 (t + a.wait) = t + a.wait := w64_at _ (by omega) (by omega)
   have hwr2 : wrap64 (t + a.wait + a.gap) = t + a.wait + a.gap := w64_at _ (by omega) (by omega)
   have hwr3 : IntKind.i64.wrap (t + a.wait + a.gap) = t + a.wait + a.gap := IntWalk.i64_in _ (by omega)
   have hyl : ys.length ≤ 40 := by
    have h1 := congrArg List.length HXX.out
    have h2 := playL_len t req (l.take i)
    simp only [List.length_map, List.length_range, List.length_take] at h1 h2
    omega
   have hltI : (i : Int) < (nl : Int) := by omega
   have HLA := Lib.hid (show (bytesA req a = [] → actL t req a = []) ∧ (bytesA req a ≠ [] → ¬ (0 < a.gap ∧ 1 < (bytesA req a).length) → actL t req a = [(t + a.wait, bytesA req a)]) ∧ (0 < a.gap ∧ 1 < (bytesA req a).length → actL t req a = [(t + a.wait, (bytesA req a).take ((bytesA req a).length / 2)), (t + a.wait + a.gap, (bytesA req a).drop ((bytesA req a).length / 2))]) from
    ⟨fun h => by unfold actL; rw [if_pos h], fun h1 h2 => by unfold actL; rw [if_neg h1, if_neg h2], fun h => by unfold actL; rw [if_neg (fun e => by rw [e] at h; simp at h), if_pos h]⟩)
   clear hc k1 k2 k3 hok hmay c0 c1 c2 c3 c4 c5 c6 c7 c8' hq ha
   obtain ⟨c0, c1, c2, c3, c4, c5, c6, c7, c8'⟩ := hC.out X hb
   go_wp2_with fail
   refine (HC1.out X hb).mono ?_
   rintro e X2 ⟨rfl, b2⟩
   have hb2 := hb.trans (b2.mono hb.size)
   clear c0 c1 c2 c3 c4 c5 c6 c7 c8'
   obtain ⟨c0, c1, c2, c3, c4, c5, c6, c7, c8'⟩ := hC.out X2 hb2
   have HB2 := Lib.hid b2
   clear b2
   go_wp2_with fail
   refine (HC2.out X2 hb2).mono ?_
   rintro e X3 ⟨Rb, m, cb, rfl, s3, b3⟩
   have hb3 := hb2.trans (b3.mono hb2.size)
   clear c0 c1 c2 c3 c4 c5 c6 c7 c8'
   obtain ⟨c0, c1, c2, c3, c4, c5, c6, c7, c8'⟩ := hC.out X3 hb3
   have hRX := HR.out.up (HB2.out.trans (b3.mono HB2.out.size))
   have hml := s3.1
   have hm300 : m ≤ 300 := by rw [← hml]; exact bytesA_le req a
   have HS3 := Lib.hid s3
   have HB3 := Lib.hid hb3
   have HR3 := Lib.hid hRX
   have hsz3 := hb3.size
   clear c0 c3 c4 c5 c6 c7 c8' b3 s3 hRX hb2 hb HC1 HC2 HB2
   by_cases h0 : m = 0
   ·subst h0
    have e0 : bytesA req a = [] := List.length_eq_zero_iff.1 hml
    have HE := Lib.hid (HLA.out.1 e0)
    have HFI := Lib.hid (show Pl1 t req l w (i + 1) (.slice A8 ys.length c8) X3 from ⟨ys, by rw [playL_next t req l i a HAI.out, HE.out, List.append_nil]; exact HR3.out, by rw [playL_next t req l i a HAI.out, HE.out, List.append_nil]; exact HXX.out, HB3.out⟩)
    by_cases hg0 : a.gap = 0
    ·have dg : (a.gap == 0) = true := by simp [hg0]
     have HG := Lib.hid hg0
     clear hg0
     go_wp2_with fail
     go_roundw
     case rel => exact ⟨_, i + 1, rfl, by omega, by go_num, HFI.out⟩
     case measure => simp [intOf]; omega
    ·have dg : (a.gap == 0) = false := by simp [hg0]
     go_wp2_with fail
     go_roundw
     case rel => exact ⟨_, i + 1, rfl, by omega, by go_num, HFI.out⟩
     case measure => simp [intOf]; omega
   ·by_cases h2 : 0 < a.gap ∧ 1 < m
    ·have HE := Lib.hid (HLA.out.2.2 (by rw [hml]; exact h2))
     obtain ⟨gb, ob, rfl, hgb⟩ := HS3.out.some_ (by omega)
     obtain ⟨h, hh⟩ : ∃ h : Nat, m / 2 = h := ⟨_, rfl⟩
     rw [hml, hh] at HE
     have hcm := HS3.out.2.2.1
     obtain ⟨h3a, h3b, h3c, h3d, h3e, h3f, h3g, hdv, hdv2, hdv3, hcbh, d3, d3n⟩ := half_facts m cb h hm300 h2.2 HS3.out.2.1 hh
     have dg : (a.gap == 0) = false := by simp; omega
     have HH := Lib.hid hh
     clear hh
     go_upto_region 16 with fail
     obtain ⟨wd, hwd⟩ : ∃ W : World, X3.drew = W := ⟨_, rfl⟩
     have hXd := zB3 hwd
     have hS : Below w.heap.size w wd := HB3.out.trans (hXd.mono HB3.out.size)
     have hba := hXd.alloc hXd.size (.cells #[.int .i64 (t + a.wait), .slice (some ⟨gb, ob, none⟩) h cb, .int .i64 (t + a.wait + a.gap), .slice (some ⟨gb, ob + h, none⟩) (m - h) (cb - h)] 51)
     have hR4 := HR3.out.up hba
     have HR4 := Lib.hid hR4
     have ho4 := hR4.1
     have hq4 := hR4.2.1
     have HS4 := Lib.hid (HS3.out.up hba)
     have hwz := hXd.size
     have HSL := Lib.hid (SlV.of_lit (w := wd) (T := 51) (cs := #[.int .i64 (t + a.wait), .slice (some ⟨gb, ob, none⟩) h cb, .int .i64 (t + a.wait + a.gap), .slice (some ⟨gb, ob + h, none⟩) (m - h) (cb - h)]) (n := 2) (size := 2) rfl rfl (by omega))
     have HU8 := Lib.hid (rowC_u8 [⟨t + a.wait, some ⟨gb, ob, none⟩, h, cb, (playL t req (l.take i)).length⟩, ⟨t + a.wait + a.gap, some ⟨gb, ob + h, none⟩, m - h, cb - h, (playL t req (l.take i)).length + 1⟩])
     have HO1 := Lib.hid (rowC_1 [⟨t + a.wait, some ⟨gb, ob, none⟩, h, cb, (playL t req (l.take i)).length⟩, ⟨t + a.wait + a.gap, some ⟨gb, ob + h, none⟩, m - h, cb - h, (playL t req (l.take i)).length + 1⟩])
     have HPP := Lib.hid (show HoldsP (playL t req (l.take i) ++ actL t req a) (wd.alloc (.cells #[.int .i64 (t + a.wait), .slice (some ⟨gb, ob, none⟩) h cb, .int .i64 (t + a.wait + a.gap), .slice (some ⟨gb, ob + h, none⟩) (m - h) (cb - h)] 51)) [⟨t + a.wait, some ⟨gb, ob, none⟩, h, cb, (playL t req (l.take i)).length⟩, ⟨t + a.wait + a.gap, some ⟨gb, ob + h, none⟩, m - h, cb - h, (playL t req (l.take i)).length + 1⟩] from fun y hy => by
      rw [HE.out]
      simp only [List.mem_cons, List.not_mem_nil, or_false] at hy
      rcases hy with rfl | rfl
      ·exact ⟨(bytesA req a).take h, by simp, HS4.out.take h h3a⟩
      ·exact ⟨(bytesA req a).drop h, by rw [List.getElem?_append_right (by simp)]; simp, HS4.out.drop h h3a⟩)
     clear hba hR4 hXd
     refine wp_region_held (S := Below w.heap.size w) (by kernel_rfl) ?_
     change wpAnyH _ _ _ _ _ _ _ _ X3.drew
     rw [hwd]
     clear hwd
     refine zU 0 rfl hS ?_
     refine zU 1 rfl hS ?_
     refine zU 2 rfl hS ?_
     refine zU 3 rfl hS ?_
     refine zU 4 rfl hS ?_
     refine zU 5 rfl hS ?_
     refine zU 6 rfl hS ?_
     refine zU 7 rfl hS ?_
     refine zU 8 rfl hS ?_
     refine zU 9 rfl hS ?_
     refine zU 10 rfl hS ?_
     refine zU 11 rfl hS ?_ (hy := fun W hH => by
      obtain ⟨_, _, q2, _⟩ := hC.out W hH
      go_simp
      with_reducible rfl)
     refine zU 12 rfl hS ?_
     refine zU 13 rfl hS ?_
     refine zU 14 rfl hS ?_
     refine zU 15 rfl hS ?_
     refine zU 16 rfl hS ?_
     refine zR 17 rfl (fun K' hK' => ?_)
     go_simp
     refine hK'.out _ _ (hS.alloc hS.size _) (fun hS => ?_)
     clear hK' K'
     refine zR 18 rfl (fun K' hK' => ?_)
     rw [if_pos (by rfl)]
     refine wp_append_slq _ (.tmp 73) (.tmp 90) 34 rfl w.heap.size 51 i0 (.agg #[.int .i64 0, .slice none 0 0]) 2 32 Tryd.underlying34 hi hz0 hz1 hz2 rfl (by decide) NoU8 zpNo _ _ _ rfl ho4 hq4 _ ⟨wd.heap.size, 0, none⟩ 2 2 [.int .i64 (t + a.wait), .slice (some ⟨gb, ob, none⟩) h cb, .int .i64 (t + a.wait + a.gap), .slice (some ⟨gb, ob + h, none⟩) (m - h) (cb - h)] rfl HSL.out HO1.out HU8.out (by unfold maxLen; omega) (by omega) (by simp; omega) ?_
     intro v6 w6 o6 g6 f6 q6
     refine hK'.out _ _ (hS.grown g6 (by simp; omega) (fun j hj => (ho4.lt j hj).1)) (fun hS => ?_)
     clear hK' K'
     refine zU 19 rfl hS ?_
     refine wpAnyH_done (by kernel_rfl) ?_ _
     go_wp2_with fail
     go_roundw
     case rel => exact ⟨_, i + 1, rfl, by omega, by go_num, Pl1.app [⟨t + a.wait, some ⟨gb, ob, none⟩, h, cb, (playL t req (l.take i)).length⟩, ⟨t + a.wait + a.gap, some ⟨gb, ob + h, none⟩, m - h, cb - h, (playL t req (l.take i)).length + 1⟩] HR4.out HXX.out HAI.out rfl (by simp [List.range_succ]) HPP.out (by rw [HE.out]; rfl) g6 o6 q6 hS⟩
     case measure => simp [intOf]; omega
    ·have e1 : bytesA req a ≠ [] := fun e => h0 (by rw [← hml, e]; rfl)
     have HE := Lib.hid (HLA.out.2.1 e1 (by rw [hml]; exact h2))
     have hba := (Below.refl X3.heap.size X3).alloc (Nat.le_refl _) (.cells #[.int .i64 (t + a.wait), .slice Rb m cb] 51)
     have hR4 := HR3.out.up hba
     have HR4 := Lib.hid hR4
     have ho4 := hR4.1
     have hq4 := hR4.2.1
     have HS4 := Lib.hid (HS3.out.up hba)
     have HB4 := Lib.hid (HB3.out.trans (hba.mono HB3.out.size))
     have HSL := Lib.hid (SlV.of_lit (w := X3) (T := 51) (cs := #[.int .i64 (t + a.wait), .slice Rb m cb]) (n := 1) (size := 2) rfl rfl (by omega))
     have HU8 := Lib.hid (rowC_u8 [⟨t + a.wait, Rb, m, cb, 0⟩])
     have HO1 := Lib.hid (rowC_1 [⟨t + a.wait, Rb, m, cb, 0⟩])
     have HPP := Lib.hid (show HoldsP (playL t req (l.take i) ++ actL t req a) (X3.alloc (.cells #[.int .i64 (t + a.wait), .slice Rb m cb] 51)) [⟨t + a.wait, Rb, m, cb, (playL t req (l.take i)).length⟩] from fun y hy => by
      rw [List.mem_singleton.1 hy, HE.out]
      exact ⟨bytesA req a, by simp, HS4.out⟩)
     clear hba hR4 e1
     by_cases hg0 : a.gap = 0
     ·have dg : (a.gap == 0) = true := by simp [hg0]
      have d3 : decide ((0 : Int) < (m : Int)) = true := decide_eq_true (by omega)
      have d3n : decide (0 < m) = true := decide_eq_true (by omega)
      have HG := Lib.hid hg0
      clear hg0
      go_wp2_with ((with_reducible refine at_append ?_); refine wpList_append_slq _ rfl (.tmp 64) (.tmp 68) 34 rfl w.heap.size 51 i0 (.agg #[.int .i64 0, .slice none 0 0]) 2 32 Tryd.underlying34 hi hz0 hz1 hz2 rfl (by decide) NoU8 zpNo _ _ _ rfl ho4 hq4 _ ⟨X3.heap.size, 0, none⟩ 1 1 [.int .i64 (t + a.wait), .slice Rb m cb] rfl HSL.out HO1.out HU8.out (by unfold maxLen; omega) (by omega) (by simp; omega) ?_; intro v6 w6 o6 g6 f6 q6)
      go_roundw
      case rel => exact ⟨_, i + 1, rfl, by omega, by go_num, Pl1.app [⟨t + a.wait, Rb, m, cb, (playL t req (l.take i)).length⟩] HR4.out HXX.out HAI.out rfl (by simp) HPP.out (by rw [HE.out]; rfl) g6 o6 q6 (HB4.out.grown g6 (by simp; omega) (fun j hj => (ho4.lt j hj).1))⟩
      case measure => simp [intOf]; omega
     ·have dg : (a.gap == 0) = false := by simp [hg0]
      obtain rfl : m = 1 := by omega
      go_wp2_with ((with_reducible refine at_append ?_); refine wpList_append_slq _ rfl (.tmp 64) (.tmp 68) 34 rfl w.heap.size 51 i0 (.agg #[.int .i64 0, .slice none 0 0]) 2 32 Tryd.underlying34 hi hz0 hz1 hz2 rfl (by decide) NoU8 zpNo _ _ _ rfl ho4 hq4 _ ⟨X3.heap.size, 0, none⟩ 1 1 [.int .i64 (t + a.wait), .slice Rb 1 cb] rfl HSL.out HO1.out HU8.out (by unfold maxLen; omega) (by omega) (by simp; omega) ?_; intro v6 w6 o6 g6 f6 q6)
      go_roundw
      case rel => exact ⟨_, i + 1, rfl, by omega, by go_num, Pl1.app [⟨t + a.wait, Rb, 1, cb, (playL t req (l.take i)).length⟩] HR4.out HXX.out HAI.out rfl (by simp) HPP.out (by rw [HE.out]; rfl) g6 o6 q6 (HB4.out.grown g6 (by simp; omega) (fun j hj => (ho4.lt j hj).1))⟩
      case measure => simp [intOf]; omega
  ·obtain rfl : i = nl := by omega
   have hltI : ¬ ((i : Int) < (i : Int)) := by omega
   have hTk : l.take i = l := List.take_of_length_le (by omega)
   have hRR := HR.out
   have hxx := HXX.out
   rw [hTk] at hRR hxx
   have hyl : ys.length ≤ 40 := by
    have h1 := congrArg List.length hxx
    have h2 := playL_len t req l
    simp only [List.length_map, List.length_range] at h1
    omega
   obtain ⟨zs, hzs⟩ : ∃ z, playL t req l = z := ⟨_, rfl⟩
   rw [hzs] at hRR hxx
   have HZ := Lib.hid hzs
   have H0 := Lib.hid (show Pl2 zs w (.slice A8 ys.length c8) (.slice none 0 0) ys [] X from ⟨hRR, RowP.nil _ _ _, (fun g _ h => by cases h), SelS.start hxx, hb, by simpa using hyl⟩)
   clear hRR hxx hyl hzs HR HXX HB hTk hb HA HMY HBY HOK HM
   go_wp2_with fail
   go_loopw [8, 14] (fun u8 u14 Y => ∃ (Y0 : World) (ys outs : List Pc), Y0 = Y ∧ Pl2 zs w u8 u14 ys outs Y0) (fun u8 _ _ => lenV u8)
   case atStart => exact ⟨_, ys, [], rfl, H0.out⟩
   case round =>
    obtain ⟨Y, ys, outs, hYe, hP⟩ := hrel
    subst hYe
    have HPY := Lib.hid hP
    obtain ⟨A1, c1, rfl⟩ := hP.1.form
    obtain ⟨A2, c2, rfl⟩ := hP.2.1.form
    have h40 := hP.2.2.2.2.2
    have hby := hP.2.2.2.2.1
    by_cases hne : 0 < ys.length
    ·obtain ⟨gA, cA, hv, hgA, hnc, hcm, hgB, hcs⟩ := hP.1.some_ hne
     injection hv with e1 _ e2
     subst e1 e2
     have HCS := Lib.hid (fun (V : World) (h : Below Y.heap.size Y V) (i : Nat) (y : Pc) (hy : ys[i]? = some y) => (⟨(h.cell (p := ⟨gA, i * 2, none⟩) hgA).trans (hcs _ _ (rowC_at ys i y hy).1), (h.cell (p := ⟨gA, i * 2 + 1, none⟩) hgA).trans (hcs _ _ (rowC_at ys i y hy).2)⟩ : V.cell? ⟨gA, i * 2, none⟩ = some (.int .i64 y.at_) ∧ V.cell? ⟨gA, i * 2 + 1, none⟩ = some (.slice y.A y.n y.c)))
     have hneI : (0 : Int) < (ys.length : Int) := by omega
     clear hP hcs
     go_wp2_with fail
     go_loopw [15, 16] (fun u15 u16 Z => ∃ (Z0 : World) (i b : Nat), Z0 = Z ∧ i ≤ ys.length ∧ u16 = .int .i64 i ∧ u15 = .int .i64 b ∧ MinB ys i b ∧ Below Y.heap.size Y Z0) (fun _ u16 _ => ys.length - (intOf u16).toNat)
     case atStart => exact ⟨_, 1, 0, rfl, by omega, rfl, rfl, MinB.start hne, Below.refl _ _⟩
     case round =>
      obtain ⟨Z, i, b, hZe, hi1, rfl, rfl, hmb, hzb⟩ := hrel
      subst hZe
      have HMB := Lib.hid hmb
      obtain ⟨y, hy, hbi, _, _⟩ := hmb
      obtain ⟨y0, y1⟩ := HCS.out Z hzb b y hy
      have HY := Lib.hid hy
      have HZB := Lib.hid hzb
      clear hy
      by_cases hlt2 : i < ys.length
      ·obtain ⟨x, hx⟩ : ∃ x, ys[i]? = some x := ⟨_, List.getElem?_eq_getElem hlt2⟩
       obtain ⟨x0, x1⟩ := HCS.out Z hzb i x hx
       have HX := Lib.hid hx
       have hltI2 : (i : Int) < (ys.length : Int) := by omega
       have hbI : (b : Int) < (ys.length : Int) := by omega
       have hbN : b < ys.length := by omega
       clear hx hzb
       by_cases q : x.at_ < y.at_
       ·have HM1 := Lib.hid (HMB.out.turn HY.out HX.out q)
        have dq : decide (x.at_ < y.at_) = true := decide_eq_true q
        go_upto_region 23 with fail
        go_quiet (fail)
        go_wp2_with fail
        go_roundw
        case rel => exact ⟨_, i + 1, i, rfl, by omega, by go_num, by go_num, HM1.out, below_drewN HZB.out _⟩
        case measure => simp [intOf]; omega
       ·have HM1 := Lib.hid (HMB.out.keep HY.out HX.out q)
        have dq : decide (x.at_ < y.at_) = false := decide_eq_false q
        go_upto_region 23 with fail
        go_quiet (fail)
        go_wp2_with fail
        go_roundw
        case rel => exact ⟨_, i + 1, b, rfl, by omega, by go_num, by go_num, HM1.out, below_drewN HZB.out _⟩
        case measure => simp [intOf]; omega
      ·obtain rfl : i = ys.length := by omega
       have hltI2 : ¬ ((ys.length : Int) < (ys.length : Int)) := by omega
       have hPZ := HPY.out.up hzb
       have HPZ := Lib.hid hPZ
       have hba := (Below.refl Z.heap.size Z).alloc (Nat.le_refl _) (.cells #[.int .i64 y.at_, .slice y.A y.n y.c] 51)
       have hP4 := hPZ.up hba
       have HP4 := Lib.hid hP4
       have ho4 := hP4.2.1.1
       have hq4 := hP4.2.1.2.1
       have HYM := Lib.hid (List.mem_of_getElem? HY.out)
       have hz4 := hP4.2.2.2.2.1.size
       obtain ⟨hol, hbN, hb40, hbI, hbI1, hncI, ⟨hwb, hwb2⟩, hbc, hbcN, hbc1, hN40⟩ := sel_facts h40 hbi hnc
       have hbN1 : b + 1 ≤ ys.length := hbi
       have HL8 := Lib.hid (sel_len ys b hbN1).2.1
       have ht40 : (ys.take b).length + (ys.length - (b + 1)) ≤ 40 := by rw [(sel_len ys b hbN1).2.2]; exact hN40
       have HOL := Lib.hid hol
       have HB40 := Lib.hid hb40
       have HT40 := Lib.hid ht40
       have HBN := Lib.hid hbN
       have HBN1 := Lib.hid hbN1
       have HNE := Lib.hid hne
       have HZ4 := Lib.hid hz4
       have HGA := Lib.hid hgA
       have HSL := Lib.hid (SlV.of_lit (w := Z) (T := 51) (cs := #[.int .i64 y.at_, .slice y.A y.n y.c]) (n := 1) (size := 2) rfl rfl (by omega))
       have HU8 := Lib.hid (rowC_u8 [y])
       have HO1 := Lib.hid (rowC_1 [y])
       have HT1 := Lib.hid (fun u (h : u ∈ (rowC ys).take (b * 2)) => rowC_1 ys u (List.mem_of_mem_take h))
       have HTU := Lib.hid (fun u (h : u ∈ (rowC ys).take (b * 2)) => rowC_u8 ys u (List.mem_of_mem_take h))
       have HD1 := Lib.hid (fun u (h : u ∈ (rowC ys).drop ((b + 1) * 2)) => rowC_1 ys u (List.mem_of_mem_drop h))
       have HDU := Lib.hid (fun u (h : u ∈ (rowC ys).drop ((b + 1) * 2)) => rowC_u8 ys u (List.mem_of_mem_drop h))
       clear hPZ hP4 hba hltI2 hol hb40 ht40 hbN hbN1 hne hz4 hgA h40 hby hbcN hbc1 hN40 hneI hcm hi1 hzb hgB
       by_cases hcc : c1 = b + 1
       ·subst hcc
        obtain ⟨hnc1, hbc2⟩ := sel_facts1 hnc
        have hLb : b + 1 < ys.length → (⟨gA, 0, none⟩ : Addr) = ⟨gA, (b + 1) * 2, none⟩ := fun h => absurd h (Nat.not_lt.2 hnc)
        have HLb := Lib.hid hLb
        clear hLb hnc hncI hbc
        go_upto_region 26 with ((with_reducible refine at_append ?_); refine wpList_append_slq _ rfl (.tmp 113) (.tmp 118) 34 rfl w.heap.size 51 i0 (.agg #[.int .i64 0, .slice none 0 0]) 2 32 Tryd.underlying34 hi hz0 hz1 hz2 rfl (by decide) NoU8 zpNo (.slice A2 outs.length c2) outs.length (rowC outs) rfl ho4 hq4 (Z.alloc (.cells #[.int .i64 y.at_, .slice y.A y.n y.c] 51)).heap.size ⟨Z.heap.size, 0, none⟩ 1 1 [.int .i64 y.at_, .slice y.A y.n y.c] rfl HSL.out HO1.out HU8.out (bnd1 HOL.out).1 (bnd1 HOL.out).2 HZ4.out ?_; intro v6 w6 o6 g6 f6 q6; obtain ⟨r1, r2, r3, r4⟩ := sel_one HP4.out HYM.out g6 f6 o6 q6; have HR6 := Lib.hid (And.intro r1 (And.intro r2 (And.intro r3 r4))); obtain ⟨r5, r6, r7, r8⟩ := r2.at_ HNE.out; have HSV6 := Lib.hid (slv_take r5 r8 (rowC_len ys) r6 r7 b HBN.out); have HZ6 := Lib.hid r4.size; clear r1 r2 r3 r4 r5 r6 r7 r8 o6 g6 f6 q6)
        go_upto_region 28 with ((with_reducible refine at_append ?_); refine wpList_append_slq _ rfl (.tmp 120) (.tmp 123) 34 rfl w.heap.size 51 i0 (.agg #[.int .i64 0, .slice none 0 0]) 2 32 Tryd.underlying34 hi hz0 hz1 hz2 rfl (by decide) NoU8 zpNo (.slice none 0 0) 0 [] rfl (World.ownsRow_nil w6 _ _ _) (AllC.none _ _) w6.heap.size ⟨gA, 0, none⟩ b (b + 1) ((rowC ys).take (b * 2)) rfl HSV6.out HT1.out HTU.out (bnd0 HB40.out).1 (bnd0 HB40.out).2 HZ6.out ?_; intro v7 w7 o7 g7 f7 q7; obtain ⟨r1, r2, r3, r4, r5⟩ := sel_two HR6.out.1 HR6.out.2.1 HR6.out.2.2.2 HBN.out g7 f7 o7 q7; have HX7 := Lib.hid r3.2.2; have HR7 := Lib.hid (And.intro r1 (And.intro r2 (And.intro r4 r5))); obtain ⟨s5, s6, s7, s8⟩ := r3.at_ HNE.out; have HSV7 : Hid (SlV w7 w7.heap.size (some ⟨gA, 0, none⟩) (ys.length - (b + 1)) 0 2 ((rowC ys).drop ((b + 1) * 2))) := Lib.hid (by have hh := slv_drop s5 s8 (rowC_len ys) s6 s7 (b + 1) HBN1.out ⟨gA, 0, none⟩ HLb.out; first | exact hh | (rw [Nat.sub_self] at hh; exact hh)); have ho7 := r1.1; have hq7 := r1.2.1; have HZ7 := Lib.hid r5.size; clear r1 r2 r3 r4 r5 s5 s6 s7 s8 o7 g7 f7 q7)
        go_wp2_with ((with_reducible refine at_append ?_); refine wpList_append_slq _ rfl (.tmp 125) (.tmp 129) 34 rfl w.heap.size 51 i0 (.agg #[.int .i64 0, .slice none 0 0]) 2 32 Tryd.underlying34 hi hz0 hz1 hz2 rfl (by decide) NoU8 zpNo v7 (ys.take b).length (rowC (ys.take b)) rfl ho7 hq7 w7.heap.size ⟨gA, 0, none⟩ (ys.length - (b + 1)) 0 ((rowC ys).drop ((b + 1) * 2)) rfl HSV7.out HD1.out HDU.out (bnd2 HT40.out).1 (bnd2 HT40.out).2 HZ7.out ?_; intro v8 w8 o8 g8 f8 q8; have hP8 := sel_three HPZ.out HMB.out HY.out HR7.out.1 HR7.out.2.1 HR7.out.2.2.1 HR7.out.2.2.2 HBN1.out g8 f8 o8 q8 HX7.out; obtain ⟨ys2, hys2⟩ : ∃ q, ys.take b ++ ys.drop (b + 1) = q := ⟨_, rfl⟩; rw [hys2] at hP8; have HL2 : Hid (ys2.length = ys.length - 1) := Lib.hid (by rw [← hys2]; exact HL8.out); obtain ⟨A8', c8', rfl⟩ := hP8.1.form; clear hys2; have HP8 := Lib.hid hP8; clear hP8 o8 g8 f8 q8)
        go_roundw
        case rel => exact ⟨_, ys2, _, rfl, HP8.out⟩
        case measure => show ys2.length < ys.length; rw [HL2.out]; exact Nat.sub_lt HNE.out (by decide)
       ·skip
        go_upto_region 26 with ((with_reducible refine at_append ?_); refine wpList_append_slq _ rfl (.tmp 113) (.tmp 118) 34 rfl w.heap.size 51 i0 (.agg #[.int .i64 0, .slice none 0 0]) 2 32 Tryd.underlying34 hi hz0 hz1 hz2 rfl (by decide) NoU8 zpNo (.slice A2 outs.length c2) outs.length (rowC outs) rfl ho4 hq4 (Z.alloc (.cells #[.int .i64 y.at_, .slice y.A y.n y.c] 51)).heap.size ⟨Z.heap.size, 0, none⟩ 1 1 [.int .i64 y.at_, .slice y.A y.n y.c] rfl HSL.out HO1.out HU8.out (bnd1 HOL.out).1 (bnd1 HOL.out).2 HZ4.out ?_; intro v6 w6 o6 g6 f6 q6; obtain ⟨r1, r2, r3, r4⟩ := sel_one HP4.out HYM.out g6 f6 o6 q6; have HR6 := Lib.hid (And.intro r1 (And.intro r2 (And.intro r3 r4))); obtain ⟨r5, r6, r7, r8⟩ := r2.at_ HNE.out; have HSV6 := Lib.hid (slv_take r5 r8 (rowC_len ys) r6 r7 b HBN.out); have HZ6 := Lib.hid r4.size; clear r1 r2 r3 r4 r5 r6 r7 r8 o6 g6 f6 q6)
        go_upto_region 28 with ((with_reducible refine at_append ?_); refine wpList_append_slq _ rfl (.tmp 120) (.tmp 123) 34 rfl w.heap.size 51 i0 (.agg #[.int .i64 0, .slice none 0 0]) 2 32 Tryd.underlying34 hi hz0 hz1 hz2 rfl (by decide) NoU8 zpNo (.slice none 0 0) 0 [] rfl (World.ownsRow_nil w6 _ _ _) (AllC.none _ _) w6.heap.size ⟨gA, 0, none⟩ b c1 ((rowC ys).take (b * 2)) rfl HSV6.out HT1.out HTU.out (bnd0 HB40.out).1 (bnd0 HB40.out).2 HZ6.out ?_; intro v7 w7 o7 g7 f7 q7; obtain ⟨r1, r2, r3, r4, r5⟩ := sel_two HR6.out.1 HR6.out.2.1 HR6.out.2.2.2 HBN.out g7 f7 o7 q7; have HX7 := Lib.hid r3.2.2; have HR7 := Lib.hid (And.intro r1 (And.intro r2 (And.intro r4 r5))); obtain ⟨s5, s6, s7, s8⟩ := r3.at_ HNE.out; have HSV7 : Hid (SlV w7 w7.heap.size (some ⟨gA, (b + 1) * 2, none⟩) (ys.length - (b + 1)) (c1 - (b + 1)) 2 ((rowC ys).drop ((b + 1) * 2))) := Lib.hid (by have hh := slv_drop s5 s8 (rowC_len ys) s6 s7 (b + 1) HBN1.out ⟨gA, (b + 1) * 2, none⟩ (fun _ => rfl); first | exact hh | (rw [Nat.sub_self] at hh; exact hh)); have ho7 := r1.1; have hq7 := r1.2.1; have HZ7 := Lib.hid r5.size; clear r1 r2 r3 r4 r5 s5 s6 s7 s8 o7 g7 f7 q7)
        go_wp2_with ((with_reducible refine at_append ?_); refine wpList_append_slq _ rfl (.tmp 125) (.tmp 129) 34 rfl w.heap.size 51 i0 (.agg #[.int .i64 0, .slice none 0 0]) 2 32 Tryd.underlying34 hi hz0 hz1 hz2 rfl (by decide) NoU8 zpNo v7 (ys.take b).length (rowC (ys.take b)) rfl ho7 hq7 w7.heap.size ⟨gA, (b + 1) * 2, none⟩ (ys.length - (b + 1)) (c1 - (b + 1)) ((rowC ys).drop ((b + 1) * 2)) rfl HSV7.out HD1.out HDU.out (bnd2 HT40.out).1 (bnd2 HT40.out).2 HZ7.out ?_; intro v8 w8 o8 g8 f8 q8; have hP8 := sel_three HPZ.out HMB.out HY.out HR7.out.1 HR7.out.2.1 HR7.out.2.2.1 HR7.out.2.2.2 HBN1.out g8 f8 o8 q8 HX7.out; obtain ⟨ys2, hys2⟩ : ∃ q, ys.take b ++ ys.drop (b + 1) = q := ⟨_, rfl⟩; rw [hys2] at hP8; have HL2 : Hid (ys2.length = ys.length - 1) := Lib.hid (by rw [← hys2]; exact HL8.out); obtain ⟨A8', c8', rfl⟩ := hP8.1.form; clear hys2; have HP8 := Lib.hid hP8; clear hP8 o8 g8 f8 q8)
        go_roundw
        case rel => exact ⟨_, ys2, _, rfl, HP8.out⟩
        case measure => show ys2.length < ys.length; rw [HL2.out]; exact Nat.sub_lt HNE.out (by decide)
    ·have e0 : ys = [] := List.length_eq_zero_iff.1 (by omega)
     subst e0
     obtain ⟨R, cR, hv, hpc⟩ := hP.2.1.pcs
     injection hv with e1 _ e2
     subst e1 e2
     have HFI := Lib.hid (show PlPost w t req l (.returned (.tuple #[.slice A2 outs.length c2, .int .i64 0])) Y from ⟨A2, outs.length, c2, _, by rw [tE, if_pos (show okT t from ht)], hpc, ⟨fun _ => by rw [HZ.out]; exact hP.2.2.2.1.done, fun h => absurd ht h⟩, hby⟩)
     clear hP hpc
     go_wp2_with fail
     go_ret2
     exact HFI.out
theorem rplay_any (t : Int) (A : Option Addr) (n c : Nat) (req : List Int) (L : Option Addr) (nl cl : Nat) (l : List ActP) (w : World) (hS : SlI w w.heap.size .u8 A n c req) (hn : n ≤ 1000) (h8 : Byte8 req) (hA : ActsI w L nl cl l) (hok : ActsOk l) (h20 : nl ≤ 20) (hm : l.all mayA = true) :
  Calls Tryd.prog 14 #[.int .i64 t, .slice A n c, .slice L nl cl] w (PlPost w t req l) := by
 by_cases q : okT t
 ·exact rplay_1 t A n c req L nl cl l w hS hn h8 hA hok h20 q hm
 ·refine (rplay_arg t A n c L nl cl w (by unfold okT at q; omega)).mono ?_
  rintro e w' ⟨rfl, h3⟩
  exact ⟨none, 0, 0, [], by rw [tE, if_neg q], PcsI.nil _, ⟨fun h => absurd h q, fun _ => rfl⟩, h3⟩
end Go.Proofs.YtcipleanckeoaaaDoor
