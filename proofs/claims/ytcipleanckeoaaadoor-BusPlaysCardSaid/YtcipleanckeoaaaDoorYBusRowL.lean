/- The row's opener for lists of acts. -/
import Derived.Test.YtcipleanckeoaaaDoorYBusNewM
import Derived.Test.YtcipleanckeoaaaDoorYBusActs
import Derived.Test.YtcipleanckeoaaaDoorRows
import Derived.WalkKit
import Derived.ProofKit
import Derived.OpenShut
import Derived.ShutString
import Derived.ChangeOld
import Derived.Below
import Derived.ChangeArms
import Derived.Deep.SlicePairs
import Derived.Deep.Strs
import Derived.Lib.LaidTab
set_option maxRecDepth 100000
set_option maxHeartbeats 40000000
namespace Go.Proofs.YtcipleanckeoaaaDoor
open Go.ChangeShapes Go.WideShapes Go.ChangeAt Go.RowKit
set_option linter.unusedVariables false
set_option linter.unusedSimpArgs false
theorem names_z (i : Nat) (h : i < 8) : ∃ z, nameZ[i]? = some z ∧ nameS i = ⟨z.toArray⟩ := by
 rcases (show i = 0 ∨ i = 1 ∨ i = 2 ∨ i = 3 ∨ i = 4 ∨ i = 5 ∨ i = 6 ∨ i = 7 by omega) with rfl | rfl | rfl | rfl | rfl | rfl | rfl | rfl <;> exact ⟨_, rfl, rfl⟩
theorem cells_of_words {H : Type} {enc : TypeId × Value → H} {P : Program} {w : World} {base : Nat} {sp : Nat → Bool} {held : Bool} {fuel : Nat} {t e : TypeId} {n : Nat} {cs : List Value} {zs : List (List UInt8)} {p : List MemPlace}
  (ht : P.underlying t = some (.array n e)) (he : P.underlying e = some .string) (hce : P.cellsOf e = 1) (hct : P.cellsOf t = n)
  (h : DataW.trod enc P w base sp held fuel t cs = some (DataW.agg (zs.map fun z => DataW.lit (Lit.string z)), p)) : ∀ (i : Nat) (z : List UInt8), zs[i]? = some z → cs[i]? = some (Value.string ⟨z.toArray⟩) := by
 intro i z hi
 obtain ⟨xs, m, _, hx, hlen, hxs, hat⟩ := DataW.trod_array ht h
 have hx1 : xs.map (·.1) = zs.map fun z => (DataW.lit (.string z) : DataW H) := by
  have := congrArg Prod.fst hx
  simpa using this.symm
 have hzl : zs.length = n := by
  have h1 := congrArg List.length hx1
  simp at h1
  omega
 have hin : i < n := by rw [← hzl]; exact (List.getElem?_eq_some_iff.1 hi).1
 have h2 := hat i hin
 rw [hce, Nat.mul_one, List.getElem?_eq_getElem (by omega)] at h2
 obtain ⟨s, hc, hy, _⟩ := DataW.trod_string he h2
 have h3 : (xs.map (·.1))[i]? = some (DataW.lit (.string s.data.toList) : DataW H) := by
  rw [List.getElem?_map, List.getElem?_eq_getElem (by omega), hy]
  rfl
 rw [hx1, List.getElem?_map, hi] at h3
 simp only [Option.map_some, Option.some.injEq, DataW.lit.injEq, Lit.string.injEq] at h3
 subst h3
 have h5 := congrArg (·[0]?) hc
 simp only [List.getElem?_take, List.getElem?_drop, List.getElem?_cons_zero, Nat.zero_lt_one, if_true, Nat.add_zero] at h5
 simpa using h5
theorem names_of_head {W : World} {d : DataW Unit} {rest : List (String × DataW Unit)} (hd : d = DataW.agg (nameZ.map fun z => DataW.lit (Lit.string z)))
  (h : laidMet Tryd.prog (("kilowatt/bus.names", d) :: rest) W) : NamesT W := by
 subst hd
 obtain ⟨ps, ⟨g', t', cs, fuel, p, q, hg', ht', hvar, hd, _, _⟩, _⟩ := h
 have hg : Tryd.prog.globalNamed "kilowatt/bus.names" = some 0 := by kernel_rfl
 have hty : (Tryd.prog.globals[0]?).map (·.type) = some 122 := by kernel_rfl
 obtain rfl := Option.some.inj (hg.symm.trans hg')
 obtain rfl := Option.some.inj (hty.symm.trans ht')
 intro i hi
 obtain ⟨z, hz, hw⟩ := names_z i hi
 have h3 := cells_of_words (by first | exact Tryd.underlying122 | kernel_rfl) Tryd.underlying9 (by kernel_rfl) (by kernel_rfl) hd i z hz
 rw [World.var?_cell hg hvar i, hw]
 simpa using h3
theorem ar_at {W : World} {a : Addr} {v : Value} (h : W.cell? (a.add 0) = some v) : a.spot = none ∧ a.block < W.heap.size := by
 have h1 := World.cell?_spot h
 have h2 := World.block_lt_of_cell? W _ h
 simp [Addr.add] at h1 h2
 exact ⟨h1, h2⟩
theorem ar_get {α : Type} (n : Nat) (f : Nat → α) (i : Nat) (x : α) (h : ((List.range n).map f)[i]? = some x) : i < n ∧ x = f i := by
 rw [List.getElem?_map] at h
 by_cases hi : i < n
 ·rw [List.getElem?_range hi] at h
  exact ⟨hi, by simpa using h.symm⟩
 ·rw [List.getElem?_eq_none (by simpa using Nat.le_of_not_lt hi)] at h
  cases h
theorem open_act {H : Type} {enc : TypeId × Value → H} {W : World} {m : Nat} {cs : List Value} {x : DataW H × List MemPlace} (hl : cs.length = 9) (h : DataW.trod enc Tryd.prog W 0 (fun _ => true) true m 29 cs = some x) :
  ∃ q : ActP × (Option Addr × Nat × Nat) × (Option Addr × Nat × Nat), cs = (q.1.cells q.2.1.1 q.2.1.2.1 q.2.1.2.2 q.2.2.1 q.2.2.2.1 q.2.2.2.2).toList ∧ SlI W W.heap.size .u16 q.2.1.1 q.2.1.2.1 q.2.1.2.2 q.1.regs ∧ SlI W W.heap.size .u8 q.2.2.1 q.2.2.2.1 q.2.2.2.2 q.1.data ∧ q.1.ok := by
 obtain ⟨xs, n, _, _, _, hx, hat⟩ := DataW.trod_struct (by first | exact Tryd.underlying29 | kernel_rfl) h
 have hx' : xs.length = 9 := hx
 have ci : Tryd.prog.cellsOf 3 = 1 := by kernel_rfl
 have cl : Tryd.prog.cellsOf 2 = 1 := by kernel_rfl
 have cu : Tryd.prog.cellsOf 5 = 1 := by kernel_rfl
 have cr : Tryd.prog.cellsOf 27 = 1 := by kernel_rfl
 have cb : Tryd.prog.cellsOf 22 = 1 := by kernel_rfl
 match cs, hl with
 | [v0, v1, v2, v3, v4, v5, v6, v7, v8], _ =>
  have a0 : DataW.trod enc Tryd.prog W 0 (fun _ => true) true n 3 (([v0, v1, v2, v3, v4, v5, v6, v7, v8].drop 0).take (Tryd.prog.cellsOf 3)) = xs[0]? := hat 0 _ rfl
  have a1 : DataW.trod enc Tryd.prog W 0 (fun _ => true) true n 2 (([v0, v1, v2, v3, v4, v5, v6, v7, v8].drop 1).take (Tryd.prog.cellsOf 2)) = xs[1]? := hat 1 _ rfl
  have a2 : DataW.trod enc Tryd.prog W 0 (fun _ => true) true n 2 (([v0, v1, v2, v3, v4, v5, v6, v7, v8].drop 2).take (Tryd.prog.cellsOf 2)) = xs[2]? := hat 2 _ rfl
  have a3 : DataW.trod enc Tryd.prog W 0 (fun _ => true) true n 27 (([v0, v1, v2, v3, v4, v5, v6, v7, v8].drop 3).take (Tryd.prog.cellsOf 27)) = xs[3]? := hat 3 _ rfl
  have a4 : DataW.trod enc Tryd.prog W 0 (fun _ => true) true n 3 (([v0, v1, v2, v3, v4, v5, v6, v7, v8].drop 4).take (Tryd.prog.cellsOf 3)) = xs[4]? := hat 4 _ rfl
  have a5 : DataW.trod enc Tryd.prog W 0 (fun _ => true) true n 3 (([v0, v1, v2, v3, v4, v5, v6, v7, v8].drop 5).take (Tryd.prog.cellsOf 3)) = xs[5]? := hat 5 _ rfl
  have a6 : DataW.trod enc Tryd.prog W 0 (fun _ => true) true n 3 (([v0, v1, v2, v3, v4, v5, v6, v7, v8].drop 6).take (Tryd.prog.cellsOf 3)) = xs[6]? := hat 6 _ rfl
  have a7 : DataW.trod enc Tryd.prog W 0 (fun _ => true) true n 5 (([v0, v1, v2, v3, v4, v5, v6, v7, v8].drop 7).take (Tryd.prog.cellsOf 5)) = xs[7]? := hat 7 _ rfl
  have a8 : DataW.trod enc Tryd.prog W 0 (fun _ => true) true n 22 (([v0, v1, v2, v3, v4, v5, v6, v7, v8].drop 8).take (Tryd.prog.cellsOf 22)) = xs[8]? := hat 8 _ rfl
  rw [ci, List.getElem?_eq_getElem (by omega)] at a0
  rw [cl, List.getElem?_eq_getElem (by omega)] at a1
  rw [cl, List.getElem?_eq_getElem (by omega)] at a2
  rw [cr, List.getElem?_eq_getElem (by omega)] at a3
  rw [ci, List.getElem?_eq_getElem (by omega)] at a4
  rw [ci, List.getElem?_eq_getElem (by omega)] at a5
  rw [ci, List.getElem?_eq_getElem (by omega)] at a6
  rw [cu, List.getElem?_eq_getElem (by omega)] at a7
  rw [cb, List.getElem?_eq_getElem (by omega)] at a8
  simp only [List.drop_succ_cons, List.drop_zero, List.take_succ_cons, List.take_zero] at a0 a1 a2 a3 a4 a5 a6 a7 a8
  obtain ⟨z0, e0, _, w0⟩ := DataW.trod_int Tryd.underlying3 a0
  obtain ⟨z1, e1, _, w1⟩ := DataW.trod_int Tryd.underlying2 a1
  obtain ⟨z2, e2, _, w2⟩ := DataW.trod_int Tryd.underlying2 a2
  have q3 : ∃ A n c xs, v3 = .slice A n c ∧ SlI W W.heap.size .u16 A n c xs ∧ Reg16 xs := by
   rcases open_ints Tryd.underlying27 Tryd.underlying45 (by kernel_rfl) a3 with ⟨hcs, _⟩ | ⟨x, l, c, zs, hcs, _, hl, hm, hz, _, hcell, hwz⟩
   ·exact ⟨none, 0, 0, [], by simpa using hcs, SlI.nil _ _ _, fun x hx => by cases hx⟩
   ·exact ⟨some x, l, c, zs.take _, by simpa using hcs, SlI.of_row hl hm (by simpa using hz) hcell, fun y hy => by
     have := bounds_u16 (hwz y (List.mem_of_mem_take hy)); omega⟩
  obtain ⟨A3, n3, c3, xs3, e3, s3, h3⟩ := q3
  obtain ⟨z4, e4, _, w4⟩ := DataW.trod_int Tryd.underlying3 a4
  obtain ⟨z5, e5, _, w5⟩ := DataW.trod_int Tryd.underlying3 a5
  obtain ⟨z6, e6, _, w6⟩ := DataW.trod_int Tryd.underlying3 a6
  obtain ⟨z7, e7, _, w7⟩ := DataW.trod_int Tryd.underlying5 a7
  have q8 : ∃ A n c xs, v8 = .slice A n c ∧ SlI W W.heap.size .u8 A n c xs ∧ Byte8 xs := by
   rcases open_ints Tryd.underlying22 Tryd.underlying5 (by kernel_rfl) a8 with ⟨hcs, _⟩ | ⟨x, l, c, zs, hcs, _, hl, hm, hz, _, hcell, hwz⟩
   ·exact ⟨none, 0, 0, [], by simpa using hcs, SlI.nil _ _ _, fun x hx => by cases hx⟩
   ·exact ⟨some x, l, c, zs.take _, by simpa using hcs, SlI.of_row hl hm (by simpa using hz) hcell, fun y hy => by
     have := bounds_u8 (hwz y (List.mem_of_mem_take hy)); omega⟩
  obtain ⟨A8, n8, c8, xs8, e8, s8, h8⟩ := q8
  simp only [List.cons.injEq, and_true] at e0 e1 e2 e4 e5 e6 e7
  subst e0 e1 e2 e3 e4 e5 e6 e7 e8
  have b7 := bounds_u8 w7
  exact ⟨(⟨z0, z1, z2, xs3, z4, z5, z6, z7, xs8⟩, (A3, n3, c3), (A8, n8, c8)), rfl, s3, s8, bounds_i64 w1, bounds_i64 w2, (by show 0 ≤ z7 ∧ z7 < 256; omega), h3, h8, bounds_i64 w4⟩
theorem open_acts {H : Type} {enc : TypeId × Value → H} {W : World} {m : Nat} {cs : List Value} {x : DataW H × List MemPlace} (h : DataW.trod enc Tryd.prog W 0 (fun _ => true) true m 25 cs = some x) :
  ∃ (A : Option Addr) (n c : Nat) (os : List ActP), cs = [.slice A n c] ∧ ActsI W A n c os ∧ ActsOk os := by
 rcases Go.Deep.open_slice Tryd.underlying25 h with ⟨hcs, _⟩ | ⟨ad, len, cap, m', n', D, Pl, hcs, _, hl, hm, hmm, rfl, hi⟩
 ·subst hcs
  exact ⟨none, 0, 0, [], rfl, ActsI.nil _, (fun a ha => by cases ha)⟩
 ·subst hcs
  have hmn : len ≤ m' := by rw [hmm]; simpa using hl
  have ec : Tryd.prog.cellsOf 29 = 9 := by kernel_rfl
  have each : ∀ i, i < len → ∃ q : ActP × (Option Addr × Nat × Nat) × (Option Addr × Nat × Nat), (∀ (j : Nat) (v : Value), (q.1.cells q.2.1.1 q.2.1.2.1 q.2.1.2.2 q.2.2.1 q.2.2.2.1 q.2.2.2.2).toList[j]? = some v → W.cell? (ad.add (i * 9 + j)) = some v) ∧ SlI W W.heap.size .u16 q.2.1.1 q.2.1.2.1 q.2.1.2.2 q.1.regs ∧ SlI W W.heap.size .u8 q.2.2.1 q.2.2.2.1 q.2.2.2.2 q.1.data ∧ q.1.ok := by
   intro i hin
   obtain ⟨cs', h1, h2⟩ := hi i (by omega)
   rw [ec] at h1
   obtain ⟨_, hlen, hcell⟩ := World.cells?_some h1
   obtain ⟨e, he, hs1, hs2, hok⟩ := open_act hlen h2
   refine ⟨e, fun j v hv => ?_, hs1, hs2, hok⟩
   rw [← he] at hv
   have hj := (List.getElem?_eq_some_iff.1 hv).1
   have e0 := hcell j (by omega)
   rw [Go.Deep.add_add] at e0
   rw [e0]
   simpa using hv
  have : Inhabited (ActP × (Option Addr × Nat × Nat) × (Option Addr × Nat × Nat)) := ⟨(⟨0, 0, 0, [], 0, 0, 0, 0, []⟩, (none, 0, 0), (none, 0, 0))⟩
  obtain ⟨q, hq⟩ := Go.Deep.choose_lt each
  refine ⟨some ad, len, cap, (List.range len).map fun i => (q i).1, rfl, ⟨by simp, hl, hm, (fun e => by cases e), fun hn => ?_⟩, ?_⟩
  ·obtain ⟨g, off, spot⟩ := ad
   obtain ⟨e1, e2⟩ := ar_at (by simpa using (hq 0 (by omega)).1 0 _ rfl)
   dsimp only at e1 e2
   subst e1
   refine ⟨g, off, rfl, e2, fun i p hp => ?_⟩
   obtain ⟨hil, rfl⟩ := ar_get _ _ _ _ hp
   obtain ⟨c0, s1, s2, _⟩ := hq i hil
   refine ⟨_, _, _, _, _, _, fun j v hv => ?_, s1, s2⟩
   have := c0 j v hv
   rw [add_plain] at this
   rw [Nat.add_assoc]
   exact this
  ·intro p hp
   obtain ⟨i, hi2, rfl⟩ := List.mem_map.1 hp
   exact (hq i (List.mem_range.1 hi2)).2.2.2
theorem open_lists {H : Type} {enc : TypeId × Value → H} {W : World} {m : Nat} {cs : List Value} {x : DataW H × List MemPlace} (h : DataW.trod enc Tryd.prog W 0 (fun _ => true) true m 23 cs = some x) :
  ∃ (L : Option Addr) (n c : Nat) (ll : List (List ActP)), cs = [.slice L n c] ∧ LsI W L n c ll ∧ (∀ l ∈ ll, ActsOk l) := by
 rcases Go.Deep.open_slice Tryd.underlying23 h with ⟨hcs, _⟩ | ⟨ad, len, cap, m', n', D, Pl, hcs, _, hl, hm, hmm, rfl, hi⟩
 ·subst hcs
  exact ⟨none, 0, 0, [], rfl, ⟨rfl, Nat.le_refl _, by simp [maxLen], fun _ => ⟨rfl, rfl⟩, fun h => absurd h (by omega)⟩, (fun a ha => by cases ha)⟩
 ·subst hcs
  have hmn : len ≤ m' := by rw [hmm]; simpa using hl
  have ec : Tryd.prog.cellsOf 25 = 1 := by kernel_rfl
  have each : ∀ i, i < len → ∃ q : (Option Addr × Nat × Nat) × List ActP, W.cell? (ad.add i) = some (.slice q.1.1 q.1.2.1 q.1.2.2) ∧ ActsI W q.1.1 q.1.2.1 q.1.2.2 q.2 ∧ ActsOk q.2 := by
   intro i hin
   obtain ⟨cs', h1, h2⟩ := hi i (by omega)
   rw [ec] at h1
   obtain ⟨_, hlen, hcell⟩ := World.cells?_some h1
   obtain ⟨A, k, c, os, rfl, hA, hok⟩ := open_acts h2
   have e0 := hcell 0 (by omega)
   rw [Go.Deep.add_add] at e0
   exact ⟨((A, k, c), os), by simpa using e0, hA, hok⟩
  have : Inhabited ((Option Addr × Nat × Nat) × List ActP) := ⟨((none, 0, 0), [])⟩
  obtain ⟨q, hq⟩ := Go.Deep.choose_lt each
  refine ⟨some ad, len, cap, (List.range len).map fun i => (q i).2, rfl, ⟨by simp, hl, hm, (fun e => by cases e), fun hn => ?_⟩, ?_⟩
  ·obtain ⟨g, off, spot⟩ := ad
   obtain ⟨e1, e2⟩ := ar_at (hq 0 (by omega)).1
   dsimp only at e1 e2
   subst e1
   refine ⟨g, off, rfl, e2, fun i p hp => ?_⟩
   obtain ⟨hil, rfl⟩ := ar_get _ _ _ _ hp
   obtain ⟨c0, s1, _⟩ := hq i hil
   rw [add_plain] at c0
   exact ⟨_, _, _, c0, s1⟩
  ·intro p hp
   obtain ⟨i, hi2, rfl⟩ := List.mem_map.1 hp
   exact (hq i (List.mem_range.1 hi2)).2.2
end Go.Proofs.YtcipleanckeoaaaDoor
