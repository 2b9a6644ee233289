/- Points and calls, opened: slices of them, from a row's reading. -/
import Derived.Test.YtcipleanckeoaaaDoorPolI
import Derived.Deep.SlicePairs
import Derived.Deep.Strs
import Derived.OpenShut
import Derived.ProofKit
namespace Go.Proofs.YtcipleanckeoaaaDoor
open Go.ChangeShapes Go.WideShapes Go.ChangeAt Go.RowKit
set_option linter.unusedVariables false
set_option maxRecDepth 100000
/-- A call of the statements'. -/
structure OpP where
  kind : Int
  t : Int
  unit : Int
  pdu : List Int
  n : Int
def OpP.ok (o : OpP) : Prop := (-9223372036854775808 ≤ o.t ∧ o.t ≤ 9223372036854775807) ∧ (-9223372036854775808 ≤ o.kind ∧ o.kind ≤ 9223372036854775807) ∧ (-9223372036854775808 ≤ o.unit ∧ o.unit ≤ 9223372036854775807) ∧ (0 ≤ o.n ∧ o.n < 4294967296) ∧ Byte8 o.pdu
def HopI (W : World) (B : Nat) (A : Option Addr) (n c : Nat) (os : List OpP) : Prop :=
  os.length = n ∧ n ≤ c ∧ c ≤ maxLen ∧ (0 < n → ∃ g off, A = some ⟨g, off, none⟩ ∧ g < B ∧ ∀ (i : Nat) (o : OpP), os[i]? = some o → ∃ Ap np cp, W.cell? ⟨g, off + i * 5, none⟩ = some (.int .i64 o.kind) ∧ W.cell? ⟨g, off + i * 5 + 1, none⟩ = some (.int .i64 o.t) ∧ W.cell? ⟨g, off + i * 5 + 2, none⟩ = some (.int .i64 o.unit) ∧ W.cell? ⟨g, off + i * 5 + 3, none⟩ = some (.slice Ap np cp) ∧ W.cell? ⟨g, off + i * 5 + 4, none⟩ = some (.int .u32 o.n) ∧ SlI W B .u8 Ap np cp o.pdu)
theorem HopI.up {w w' : World} {A : Option Addr} {n c : Nat} {os : List OpP} (h : HopI w w.heap.size A n c os) (hb : Below w.heap.size w w') : HopI w' w'.heap.size A n c os := by
  obtain ⟨h1, h2, h3, h5⟩ := h
  refine ⟨h1, h2, h3, fun hn => ?_⟩
  obtain ⟨g, off, e, hg, hc⟩ := h5 hn
  refine ⟨g, off, e, Nat.lt_of_lt_of_le hg hb.size, fun i b hi => ?_⟩
  obtain ⟨Ap, np, cp, k1, k2, k3, k4, k5, k6⟩ := hc i b hi
  exact ⟨Ap, np, cp, (hb.cell (p := ⟨g, off + i * 5, none⟩) hg).trans k1, (hb.cell (p := ⟨g, off + i * 5 + 1, none⟩) hg).trans k2, (hb.cell (p := ⟨g, off + i * 5 + 2, none⟩) hg).trans k3, (hb.cell (p := ⟨g, off + i * 5 + 3, none⟩) hg).trans k4, (hb.cell (p := ⟨g, off + i * 5 + 4, none⟩) hg).trans k5, k6.up hb⟩
theorem pr_at {W : World} {a : Addr} {v : Value} (h : W.cell? (a.add 0) = some v) : a.spot = none ∧ a.block < W.heap.size := by
  have h1 := World.cell?_spot h
  have h2 := World.block_lt_of_cell? W _ h
  simp [Addr.add] at h1 h2
  exact ⟨h1, h2⟩
theorem pr_get {α : Type} (n : Nat) (f : Nat → α) (i : Nat) (x : α) (h : ((List.range n).map f)[i]? = some x) : i < n ∧ x = f i := by
  rw [List.getElem?_map] at h
  by_cases hi : i < n
  · rw [List.getElem?_range hi] at h
    exact ⟨hi, by simpa using h.symm⟩
  · rw [List.getElem?_eq_none (by simpa using Nat.le_of_not_lt hi)] at h
    cases h
theorem open_pt {H : Type} {enc : TypeId × Value → H} {W : World} {m : Nat} {cs : List Value} {x : DataW H × List MemPlace} (hl : cs.length = 4) (h : DataW.trod enc Tryd.prog W 0 (fun _ => true) true m 143 cs = some x) :
    ∃ p : PPt, cs = [.int .i64 p.unit, .int .i64 p.fn, .int .i64 p.addr, .int .i64 p.order] ∧ p.due = 0 ∧ p.fails = 0 ∧ p.turns = 0 := by
  obtain ⟨xs, n, _, _, _, hx, hat⟩ := DataW.trod_struct (by first | exact Tryd.underlying143 | kernel_rfl) h
  have hx' : xs.length = 4 := hx
  have ci : Tryd.prog.cellsOf 3 = 1 := by kernel_rfl
  match cs, hl with
  | [v0, v1, v2, v3], _ =>
    have a0 : DataW.trod enc Tryd.prog W 0 (fun _ => true) true n 3 (([v0, v1, v2, v3].drop 0).take (Tryd.prog.cellsOf 3)) = xs[0]? := hat 0 _ rfl
    have a1 : DataW.trod enc Tryd.prog W 0 (fun _ => true) true n 3 (([v0, v1, v2, v3].drop 1).take (Tryd.prog.cellsOf 3)) = xs[1]? := hat 1 _ rfl
    have a2 : DataW.trod enc Tryd.prog W 0 (fun _ => true) true n 3 (([v0, v1, v2, v3].drop 2).take (Tryd.prog.cellsOf 3)) = xs[2]? := hat 2 _ rfl
    have a3 : DataW.trod enc Tryd.prog W 0 (fun _ => true) true n 3 (([v0, v1, v2, v3].drop 3).take (Tryd.prog.cellsOf 3)) = xs[3]? := hat 3 _ rfl
    rw [ci, List.getElem?_eq_getElem (by omega)] at a0 a1 a2 a3
    simp only [List.drop_succ_cons, List.drop_zero, List.take_succ_cons, List.take_zero] at a0 a1 a2 a3
    obtain ⟨z0, e0, _, _⟩ := DataW.trod_int Tryd.underlying3 a0
    obtain ⟨z1, e1, _, _⟩ := DataW.trod_int Tryd.underlying3 a1
    obtain ⟨z2, e2, _, _⟩ := DataW.trod_int Tryd.underlying3 a2
    obtain ⟨z3, e3, _, _⟩ := DataW.trod_int Tryd.underlying3 a3
    simp only [List.cons.injEq, and_true] at e0 e1 e2 e3
    subst e0 e1 e2 e3
    exact ⟨⟨z0, z1, z2, z3, 0, 0, 0⟩, rfl, rfl, rfl, rfl⟩
theorem open_pts {H : Type} {enc : TypeId × Value → H} {W : World} {m : Nat} {cs : List Value} {x : DataW H × List MemPlace} (h : DataW.trod enc Tryd.prog W 0 (fun _ => true) true m 73 cs = some x) :
    ∃ (A : Option Addr) (n c : Nat) (ps : List PPt), cs = [.slice A n c] ∧ PtsI W W.heap.size A n c ps ∧ ∀ x ∈ ps, x.due = 0 ∧ x.fails = 0 ∧ x.turns = 0 := by
  rcases Go.Deep.open_slice Tryd.underlying73 h with ⟨hcs, _⟩ | ⟨ad, len, cap, m', n', D, Pl, hcs, _, hl, hm, hmm, rfl, hi⟩
  · subst hcs
    exact ⟨none, 0, 0, [], rfl, ⟨rfl, Nat.le_refl _, Nat.zero_le _, fun h => by omega⟩, by simp⟩
  · subst hcs
    have hmn : len ≤ m' := by rw [hmm]; simpa using hl
    have ec : Tryd.prog.cellsOf 143 = 4 := by kernel_rfl
    have each : ∀ i, i < len → ∃ q : PPt, W.cell? (ad.add (i * 4)) = some (.int .i64 q.unit) ∧ W.cell? (ad.add (i * 4 + 1)) = some (.int .i64 q.fn) ∧ W.cell? (ad.add (i * 4 + 2)) = some (.int .i64 q.addr) ∧ W.cell? (ad.add (i * 4 + 3)) = some (.int .i64 q.order) ∧ q.due = 0 ∧ q.fails = 0 ∧ q.turns = 0 := by
      intro i hin
      obtain ⟨cs', h1, h2⟩ := hi i (by omega)
      rw [ec] at h1
      obtain ⟨_, hlen, hcell⟩ := World.cells?_some h1
      obtain ⟨e, rfl, he⟩ := open_pt hlen h2
      have e0 := hcell 0 (by omega)
      have e1 := hcell 1 (by omega)
      have e2 := hcell 2 (by omega)
      have e3 := hcell 3 (by omega)
      rw [Go.Deep.add_add] at e0 e1 e2 e3
      exact ⟨e, by simpa using e0, by simpa using e1, by simpa using e2, by simpa using e3, he⟩
    have : Inhabited PPt := ⟨⟨0, 0, 0, 0, 0, 0, 0⟩⟩
    obtain ⟨q, hq⟩ := Go.Deep.choose_lt each
    refine ⟨some ad, len, cap, (List.range len).map q, rfl, ⟨by simp, hl, hm, fun hn => ?_⟩, ?_⟩
    · obtain ⟨g, off, spot⟩ := ad
      obtain ⟨e1, e2⟩ := pr_at (by simpa using (hq 0 (by omega)).1)
      dsimp only at e1 e2
      subst e1
      refine ⟨g, off, rfl, e2, fun i p hp => ?_⟩
      obtain ⟨hil, rfl⟩ := pr_get _ _ _ _ hp
      obtain ⟨c0, c1, c2, c3, _⟩ := hq i hil
      rw [add_plain] at c0 c1 c2 c3
      exact ⟨c0, c1, c2, c3⟩
    · intro p hp
      obtain ⟨i, hi2, rfl⟩ := List.mem_map.1 hp
      exact (hq i (List.mem_range.1 hi2)).2.2.2.2
theorem open_hop {H : Type} {enc : TypeId × Value → H} {W : World} {m : Nat} {cs : List Value} {x : DataW H × List MemPlace} (hl : cs.length = 5) (h : DataW.trod enc Tryd.prog W 0 (fun _ => true) true m 93 cs = some x) :
    ∃ q : OpP × Option Addr × Nat × Nat, cs = [.int .i64 q.1.kind, .int .i64 q.1.t, .int .i64 q.1.unit, .slice q.2.1 q.2.2.1 q.2.2.2, .int .u32 q.1.n] ∧ SlI W W.heap.size .u8 q.2.1 q.2.2.1 q.2.2.2 q.1.pdu ∧ q.1.ok := by
  obtain ⟨xs, n, _, _, _, hx, hat⟩ := DataW.trod_struct (by first | exact Tryd.underlying93 | kernel_rfl) h
  have hx' : xs.length = 4 := hx
  have ci : Tryd.prog.cellsOf 3 = 1 := by kernel_rfl
  have cl : Tryd.prog.cellsOf 2 = 1 := by kernel_rfl
  have cu : Tryd.prog.cellsOf 91 = 1 := by kernel_rfl
  have cf : Tryd.prog.cellsOf 64 = 2 := by kernel_rfl
  have cb : Tryd.prog.cellsOf 22 = 1 := by kernel_rfl
  match cs, hl with
  | [v0, v1, v2, v3, v4], _ =>
    have a0 : DataW.trod enc Tryd.prog W 0 (fun _ => true) true n 3 (([v0, v1, v2, v3, v4].drop 0).take (Tryd.prog.cellsOf 3)) = xs[0]? := hat 0 _ rfl
    have a1 : DataW.trod enc Tryd.prog W 0 (fun _ => true) true n 2 (([v0, v1, v2, v3, v4].drop 1).take (Tryd.prog.cellsOf 2)) = xs[1]? := hat 1 _ rfl
    have a2 : DataW.trod enc Tryd.prog W 0 (fun _ => true) true n 64 (([v0, v1, v2, v3, v4].drop 2).take (Tryd.prog.cellsOf 64)) = xs[2]? := hat 2 _ rfl
    have a3 : DataW.trod enc Tryd.prog W 0 (fun _ => true) true n 91 (([v0, v1, v2, v3, v4].drop 4).take (Tryd.prog.cellsOf 91)) = xs[3]? := hat 3 _ rfl
    rw [ci, List.getElem?_eq_getElem (by omega)] at a0
    rw [cl, List.getElem?_eq_getElem (by omega)] at a1
    rw [cf, List.getElem?_eq_getElem (by omega)] at a2
    rw [cu, List.getElem?_eq_getElem (by omega)] at a3
    simp only [List.drop_succ_cons, List.drop_zero, List.take_succ_cons, List.take_zero] at a0 a1 a2 a3
    obtain ⟨ys, n2, _, _, _, hy, hbt⟩ := DataW.trod_struct (by first | exact Tryd.underlying64 | kernel_rfl) a2
    have hy' : ys.length = 2 := hy
    have b0 : DataW.trod enc Tryd.prog W 0 (fun _ => true) true n2 3 (([v2, v3].drop 0).take (Tryd.prog.cellsOf 3)) = ys[0]? := hbt 0 _ rfl
    have b1 : DataW.trod enc Tryd.prog W 0 (fun _ => true) true n2 22 (([v2, v3].drop 1).take (Tryd.prog.cellsOf 22)) = ys[1]? := hbt 1 _ rfl
    rw [ci, List.getElem?_eq_getElem (by omega)] at b0
    rw [cb, List.getElem?_eq_getElem (by omega)] at b1
    simp only [List.drop_succ_cons, List.drop_zero, List.take_succ_cons, List.take_zero] at b0 b1
    obtain ⟨z0, e0, _, w0⟩ := DataW.trod_int Tryd.underlying3 a0
    obtain ⟨z1, e1, _, w1⟩ := DataW.trod_int Tryd.underlying2 a1
    obtain ⟨z2, e2, _, w2⟩ := DataW.trod_int Tryd.underlying3 b0
    obtain ⟨z4, e4, _, w4⟩ := DataW.trod_int Tryd.underlying91 a3
    have q3 : ∃ A n c xs, v3 = .slice A n c ∧ SlI W W.heap.size .u8 A n c xs ∧ Byte8 xs := by
      rcases open_ints Tryd.underlying22 Tryd.underlying5 (by kernel_rfl) b1 with ⟨hcs, _⟩ | ⟨x, l, c, zs, hcs, _, hl, hm, hz, _, hcell, hwz⟩
      · exact ⟨none, 0, 0, [], by simpa using hcs, SlI.nil _ _ _, fun x hx => by cases hx⟩
      · exact ⟨some x, l, c, zs.take _, by simpa using hcs, SlI.of_row hl hm (by simpa using hz) hcell, fun y hy => by
          have := bounds_u8 (hwz y (List.mem_of_mem_take hy)); omega⟩
    obtain ⟨A3, n3, c3, xs3, e3, s3, h3⟩ := q3
    simp only [List.cons.injEq, and_true] at e0 e1 e2 e4
    subst e0 e1 e2 e3 e4
    refine ⟨(⟨z0, z1, z2, xs3, z4⟩, A3, n3, c3), rfl, s3, bounds_i64 w1, bounds_i64 w0, bounds_i64 w2, ?_, h3⟩
    simp [Lit.wf, IntKind.min, IntKind.max, IntKind.bits, IntKind.signed] at w4
    show 0 ≤ z4 ∧ z4 < _
    omega
theorem open_hops {H : Type} {enc : TypeId × Value → H} {W : World} {m : Nat} {cs : List Value} {x : DataW H × List MemPlace} (h : DataW.trod enc Tryd.prog W 0 (fun _ => true) true m 76 cs = some x) :
    ∃ (A : Option Addr) (n c : Nat) (os : List OpP), cs = [.slice A n c] ∧ HopI W W.heap.size A n c os ∧ ∀ o ∈ os, o.ok := by
  rcases Go.Deep.open_slice Tryd.underlying76 h with ⟨hcs, _⟩ | ⟨ad, len, cap, m', n', D, Pl, hcs, _, hl, hm, hmm, rfl, hi⟩
  · subst hcs
    exact ⟨none, 0, 0, [], rfl, ⟨rfl, Nat.le_refl _, Nat.zero_le _, fun h => by omega⟩, by simp⟩
  · subst hcs
    have hmn : len ≤ m' := by rw [hmm]; simpa using hl
    have ec : Tryd.prog.cellsOf 93 = 5 := by kernel_rfl
    have each : ∀ i, i < len → ∃ q : OpP × Option Addr × Nat × Nat, (W.cell? (ad.add (i * 5)) = some (.int .i64 q.1.kind) ∧ W.cell? (ad.add (i * 5 + 1)) = some (.int .i64 q.1.t) ∧ W.cell? (ad.add (i * 5 + 2)) = some (.int .i64 q.1.unit) ∧ W.cell? (ad.add (i * 5 + 3)) = some (.slice q.2.1 q.2.2.1 q.2.2.2) ∧ W.cell? (ad.add (i * 5 + 4)) = some (.int .u32 q.1.n)) ∧ SlI W W.heap.size .u8 q.2.1 q.2.2.1 q.2.2.2 q.1.pdu ∧ q.1.ok := by
      intro i hin
      obtain ⟨cs', h1, h2⟩ := hi i (by omega)
      rw [ec] at h1
      obtain ⟨_, hlen, hcell⟩ := World.cells?_some h1
      obtain ⟨e, rfl, he⟩ := open_hop hlen h2
      have e0 := hcell 0 (by omega)
      have e1 := hcell 1 (by omega)
      have e2 := hcell 2 (by omega)
      have e3 := hcell 3 (by omega)
      have e4 := hcell 4 (by omega)
      rw [Go.Deep.add_add] at e0 e1 e2 e3 e4
      exact ⟨e, ⟨by simpa using e0, by simpa using e1, by simpa using e2, by simpa using e3, by simpa using e4⟩, he⟩
    have : Inhabited (OpP × Option Addr × Nat × Nat) := ⟨(⟨0, 0, 0, [], 0⟩, none, 0, 0)⟩
    obtain ⟨q, hq⟩ := Go.Deep.choose_lt each
    refine ⟨some ad, len, cap, (List.range len).map fun i => (q i).1, rfl, ⟨by simp, hl, hm, fun hn => ?_⟩, ?_⟩
    · obtain ⟨g, off, spot⟩ := ad
      obtain ⟨e1, e2⟩ := pr_at (by simpa using (hq 0 (by omega)).1.1)
      dsimp only at e1 e2
      subst e1
      refine ⟨g, off, rfl, e2, fun i p hp => ?_⟩
      obtain ⟨hil, rfl⟩ := pr_get _ _ _ _ hp
      obtain ⟨⟨c0, c1, c2, c3, c4⟩, hs, _⟩ := hq i hil
      rw [add_plain] at c0 c1 c2 c3 c4
      exact ⟨_, _, _, c0, c1, c2, c3, c4, hs⟩
    · intro p hp
      obtain ⟨i, hi2, rfl⟩ := List.mem_map.1 hp
      exact (hq i (List.mem_range.1 hi2)).2.2
end Go.Proofs.YtcipleanckeoaaaDoor
