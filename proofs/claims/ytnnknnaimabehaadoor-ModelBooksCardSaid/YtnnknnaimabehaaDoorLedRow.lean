/- Entries, opened: by value, and slices of them; the table of words, from a row's list. -/
import Derived.Test.YtnnknnaimabehaaDoorLedAdd
import Derived.Test.YtnnknnaimabehaaDoorScope
import Derived.RangeFuncNested
import Derived.RangeFuncBound
import Derived.RangeFuncCalls
import Derived.RangeFuncLeaves
import Derived.Shelf.Abstract
import Derived.Shelf.RegionOpen
import Derived.OwnWalkIn
import Derived.TacticsInMore
import Derived.LoopNIn
import Derived.LoopIn
import Derived.Test.YtnnknnaimabehaaDoorShelf
import Derived.Test.YtnnknnaimabehaaDoorRowUp
import Derived.Sort.Grow
import Derived.Lib.ItoaLen
import Derived.Test.YtnnknnaimabehaaDoorLedPlain
import Derived.Test.YtnnknnaimabehaaDoorRound
import Derived.Test.YtnnknnaimabehaaDoorArr
import Derived.Deep.MidRow
import Derived.Deep.Strs
import Derived.Deep.SlicePairs
import Derived.Lib.LaidTab
import Derived.OpenShut
import Derived.ProofKit
namespace Go.Proofs.YtnnknnaimabehaaDoor
open Go.ChangeShapes Go.WideShapes Go.ChangeAt Go.RowKit
set_option linter.unusedVariables false
set_option maxRecDepth 100000
theorem cons_of {α : Type} {l : List α} {n : Nat} (h : l.length = n + 1) : ∃ v r, l = v :: r ∧ r.length = n := by
  cases l with
  | nil => cases h
  | cons v r => exact ⟨v, r, rfl, by simpa using h⟩
theorem wf_wrap {k : IntKind} {n : Int} (h : (Lit.int k n).wf = true) : k.wrap n = n := by
  simp only [Lit.wf, Bool.and_eq_true, decide_eq_true_eq] at h
  cases k <;> simp [IntKind.min, IntKind.max, IntKind.wrap, IntKind.bits, IntKind.signed] at h ⊢ <;> omega
theorem ecell : Tryd.prog.cellsOf 63 = 42 := by kernel_rfl
theorem open_ent {H : Type} {enc : TypeId × Value → H} {W : World} {m : Nat} {cs : List Value} {x : DataW H × List MemPlace} (h : DataW.trod enc Tryd.prog W 0 (fun _ => true) true m 63 cs = some x) : ∃ e : Ent, cs = e.cells ∧ e.ok := by
  obtain ⟨xs, n, _, _, hlen, hx, hat⟩ := DataW.trod_struct (by first | exact Tryd.underlying63 | kernel_rfl) h
  rw [ecell] at hlen
  obtain ⟨v0, r0, rfl, hl0⟩ := cons_of hlen
  obtain ⟨v1, r1, rfl, hl1⟩ := cons_of hl0
  obtain ⟨v2, r2, rfl, hl2⟩ := cons_of hl1
  obtain ⟨v3, r3, rfl, hl3⟩ := cons_of hl2
  obtain ⟨v4, r4, rfl, hl4⟩ := cons_of hl3
  obtain ⟨v5, r5, rfl, hl5⟩ := cons_of hl4
  obtain ⟨v6, r6, rfl, hl6⟩ := cons_of hl5
  obtain ⟨v7, r7, rfl, hl7⟩ := cons_of hl6
  obtain ⟨v8, r8, rfl, hl8⟩ := cons_of hl7
  obtain ⟨v9, r9, rfl, hl9⟩ := cons_of hl8
  have hx' : xs.length = 11 := hx
  have c3 : Tryd.prog.cellsOf 3 = 1 := by kernel_rfl
  have c2 : Tryd.prog.cellsOf 2 = 1 := by kernel_rfl
  have cu : Tryd.prog.cellsOf 59 = 1 := by kernel_rfl
  have cq : Tryd.prog.cellsOf 44 = 1 := by kernel_rfl
  have ch : Tryd.prog.cellsOf 61 = 32 := by kernel_rfl
  have at0 : DataW.trod enc Tryd.prog W 0 (fun _ => true) true n 3 (((v0 :: v1 :: v2 :: v3 :: v4 :: v5 :: v6 :: v7 :: v8 :: v9 :: r9).drop 0).take (Tryd.prog.cellsOf 3)) = xs[0]? := hat 0 _ rfl
  have at1 : DataW.trod enc Tryd.prog W 0 (fun _ => true) true n 3 (((v0 :: v1 :: v2 :: v3 :: v4 :: v5 :: v6 :: v7 :: v8 :: v9 :: r9).drop 1).take (Tryd.prog.cellsOf 3)) = xs[1]? := hat 1 _ rfl
  have at2 : DataW.trod enc Tryd.prog W 0 (fun _ => true) true n 2 (((v0 :: v1 :: v2 :: v3 :: v4 :: v5 :: v6 :: v7 :: v8 :: v9 :: r9).drop 2).take (Tryd.prog.cellsOf 2)) = xs[2]? := hat 2 _ rfl
  have at3 : DataW.trod enc Tryd.prog W 0 (fun _ => true) true n 2 (((v0 :: v1 :: v2 :: v3 :: v4 :: v5 :: v6 :: v7 :: v8 :: v9 :: r9).drop 3).take (Tryd.prog.cellsOf 2)) = xs[3]? := hat 3 _ rfl
  have at4 : DataW.trod enc Tryd.prog W 0 (fun _ => true) true n 3 (((v0 :: v1 :: v2 :: v3 :: v4 :: v5 :: v6 :: v7 :: v8 :: v9 :: r9).drop 4).take (Tryd.prog.cellsOf 3)) = xs[4]? := hat 4 _ rfl
  have at5 : DataW.trod enc Tryd.prog W 0 (fun _ => true) true n 2 (((v0 :: v1 :: v2 :: v3 :: v4 :: v5 :: v6 :: v7 :: v8 :: v9 :: r9).drop 5).take (Tryd.prog.cellsOf 2)) = xs[5]? := hat 5 _ rfl
  have at6 : DataW.trod enc Tryd.prog W 0 (fun _ => true) true n 2 (((v0 :: v1 :: v2 :: v3 :: v4 :: v5 :: v6 :: v7 :: v8 :: v9 :: r9).drop 6).take (Tryd.prog.cellsOf 2)) = xs[6]? := hat 6 _ rfl
  have at7 : DataW.trod enc Tryd.prog W 0 (fun _ => true) true n 3 (((v0 :: v1 :: v2 :: v3 :: v4 :: v5 :: v6 :: v7 :: v8 :: v9 :: r9).drop 7).take (Tryd.prog.cellsOf 3)) = xs[7]? := hat 7 _ rfl
  have at8 : DataW.trod enc Tryd.prog W 0 (fun _ => true) true n 59 (((v0 :: v1 :: v2 :: v3 :: v4 :: v5 :: v6 :: v7 :: v8 :: v9 :: r9).drop 8).take (Tryd.prog.cellsOf 59)) = xs[8]? := hat 8 _ rfl
  have at9 : DataW.trod enc Tryd.prog W 0 (fun _ => true) true n 44 (((v0 :: v1 :: v2 :: v3 :: v4 :: v5 :: v6 :: v7 :: v8 :: v9 :: r9).drop 9).take (Tryd.prog.cellsOf 44)) = xs[9]? := hat 9 _ rfl
  have at10 : DataW.trod enc Tryd.prog W 0 (fun _ => true) true n 61 (((v0 :: v1 :: v2 :: v3 :: v4 :: v5 :: v6 :: v7 :: v8 :: v9 :: r9).drop 10).take (Tryd.prog.cellsOf 61)) = xs[10]? := hat 10 _ rfl
  clear hat
  rw [c3, List.getElem?_eq_getElem (by omega)] at at0
  simp only [List.drop_zero, List.take_succ_cons, List.take_zero] at at0
  rw [c3, List.getElem?_eq_getElem (by omega)] at at1
  simp only [List.drop_succ_cons, List.drop_zero, List.take_succ_cons, List.take_zero] at at1
  rw [c2, List.getElem?_eq_getElem (by omega)] at at2
  simp only [List.drop_succ_cons, List.drop_zero, List.take_succ_cons, List.take_zero] at at2
  rw [c2, List.getElem?_eq_getElem (by omega)] at at3
  simp only [List.drop_succ_cons, List.drop_zero, List.take_succ_cons, List.take_zero] at at3
  rw [c3, List.getElem?_eq_getElem (by omega)] at at4
  simp only [List.drop_succ_cons, List.drop_zero, List.take_succ_cons, List.take_zero] at at4
  rw [c2, List.getElem?_eq_getElem (by omega)] at at5
  simp only [List.drop_succ_cons, List.drop_zero, List.take_succ_cons, List.take_zero] at at5
  rw [c2, List.getElem?_eq_getElem (by omega)] at at6
  simp only [List.drop_succ_cons, List.drop_zero, List.take_succ_cons, List.take_zero] at at6
  rw [c3, List.getElem?_eq_getElem (by omega)] at at7
  simp only [List.drop_succ_cons, List.drop_zero, List.take_succ_cons, List.take_zero] at at7
  rw [cu, List.getElem?_eq_getElem (by omega)] at at8
  simp only [List.drop_succ_cons, List.drop_zero, List.take_succ_cons, List.take_zero] at at8
  rw [cq, List.getElem?_eq_getElem (by omega)] at at9
  simp only [List.drop_succ_cons, List.drop_zero, List.take_succ_cons, List.take_zero] at at9
  rw [ch, List.getElem?_eq_getElem (by omega)] at at10
  simp only [List.drop_succ_cons, List.drop_zero] at at10
  rw [List.take_of_length_le (by omega)] at at10
  obtain ⟨z0, e0, _, w0⟩ := DataW.trod_int Tryd.underlying3 at0
  obtain ⟨z1, e1, _, w1⟩ := DataW.trod_int Tryd.underlying3 at1
  obtain ⟨z2, e2, _, w2⟩ := DataW.trod_int Tryd.underlying2 at2
  obtain ⟨z3, e3, _, w3⟩ := DataW.trod_int Tryd.underlying2 at3
  obtain ⟨z4, e4, _, w4⟩ := DataW.trod_int Tryd.underlying3 at4
  obtain ⟨z5, e5, _, w5⟩ := DataW.trod_int Tryd.underlying2 at5
  obtain ⟨z6, e6, _, w6⟩ := DataW.trod_int Tryd.underlying2 at6
  obtain ⟨z7, e7, _, w7⟩ := DataW.trod_int Tryd.underlying3 at7
  obtain ⟨z8, e8, _, w8⟩ := DataW.trod_int Tryd.underlying59 at8
  obtain ⟨z9, e9, _, w9⟩ := DataW.trod_int Tryd.underlying44 at9
  obtain ⟨zs, hz, hzl, hzw⟩ := open_arr_ints (cs := r9.toArray) (by first | exact Tryd.underlying61 | kernel_rfl) Tryd.underlying5 (by kernel_rfl) ch ⟨n, (show DataW.trod enc Tryd.prog W 0 (fun _ => true) true n 61 (Value.cells (.agg r9.toArray)).toList = some (xs[10].1, xs[10].2) from at10)⟩
  simp only [List.cons.injEq, and_true] at e0 e1 e2 e3 e4 e5 e6 e7 e8 e9
  subst e0 e1 e2 e3 e4 e5 e6 e7 e8 e9
  have hr : r9 = zs.map (Value.int .u8) := by simpa using congrArg Array.toList hz
  subst hr
  refine ⟨⟨z0, z1, z2, z3, z4, z5, z6, z7, z8, z9, zs⟩, rfl, wf_wrap w0, wf_wrap w1, wf_wrap w2, wf_wrap w3, wf_wrap w4, wf_wrap w5, wf_wrap w6, wf_wrap w7, wf_wrap w8, wf_wrap w9, hzl, fun y hy => ?_⟩
  have := hzw y hy
  simp [Lit.wf, IntKind.min, IntKind.max, IntKind.bits, IntKind.signed] at this
  omega
theorem eadd_at {W : World} {a : Addr} {v : Value} (h : W.cell? (a.add 0) = some v) : a.spot = none ∧ a.block < W.heap.size := by
  have h1 := World.cell?_spot h
  have h2 := World.block_lt_of_cell? W _ h
  simp [Addr.add] at h1 h2
  exact ⟨h1, h2⟩
theorem erange_get {α : Type} (n : Nat) (f : Nat → α) (i : Nat) (x : α) (h : ((List.range n).map f)[i]? = some x) : i < n ∧ x = f i := by
  rw [List.getElem?_map] at h
  by_cases hi : i < n
  · rw [List.getElem?_range hi] at h
    exact ⟨hi, by simpa using h.symm⟩
  · rw [List.getElem?_eq_none (by simpa using Nat.le_of_not_lt hi)] at h
    cases h
theorem open_ents {H : Type} {enc : TypeId × Value → H} {W : World} {m : Nat} {cs : List Value} {x : DataW H × List MemPlace} (h : DataW.trod enc Tryd.prog W 0 (fun _ => true) true m 53 cs = some x) :
    ∃ (A : Option Addr) (n c : Nat) (es : List Ent), cs = [.slice A n c] ∧ EnI W A n es ∧ n ≤ maxLen := by
  rcases Go.Deep.open_slice Tryd.underlying53 h with ⟨hcs, _⟩ | ⟨ad, len, cap, m', n', D, Pl, hcs, _, hl, hm, hmm, rfl, hi⟩
  · subst hcs
    exact ⟨none, 0, 0, [], rfl, ⟨rfl, by simp, fun i e he => by simp at he⟩, Nat.zero_le _⟩
  · subst hcs
    have hmn : len ≤ m' := by rw [hmm]; simpa using hl
    have each : ∀ i, i < len → ∃ q : Ent, (∀ j v, q.cells[j]? = some v → W.cell? (ad.add (i * 42 + j)) = some v) ∧ q.ok := by
      intro i hin
      obtain ⟨cs', h1, h2⟩ := hi i (by omega)
      rw [ecell] at h1
      obtain ⟨_, hlen, hcell⟩ := World.cells?_some h1
      obtain ⟨e, rfl, he⟩ := open_ent h2
      refine ⟨e, fun j v hv => ?_, he⟩
      have hj := (List.getElem?_eq_some_iff.1 hv).1
      have e0 := hcell j (by first | omega | (have := Ent.cells_len e he.2.2.2.2.2.2.2.2.2.2.1; omega))
      rw [Go.Deep.add_add] at e0
      rw [e0]
      simpa using hv
    have : Inhabited Ent := ⟨Ent.none 0⟩
    obtain ⟨q, hq⟩ := Go.Deep.choose_lt each
    refine ⟨some ad, len, cap, (List.range len).map q, rfl, ⟨by simp, ?_, fun i e he => ?_⟩, by omega⟩
    · intro p hp
      obtain ⟨i, hi2, rfl⟩ := List.mem_map.1 hp
      exact (hq i (List.mem_range.1 hi2)).2
    · obtain ⟨hil, rfl⟩ := erange_get _ _ _ _ he
      obtain ⟨g, off, spot⟩ := ad
      have hs := (eadd_at (by simpa using (hq 0 (by omega)).1 0 _ rfl)).1
      dsimp only at hs
      subst hs
      refine ⟨g, off, rfl, fun j v hv => ?_⟩
      have := (hq i hil).1 j v hv
      rw [add_plain] at this
      rw [Nat.add_assoc]
      exact this
def wordsZ : List (List UInt8) := [[], [105, 110, 116, 101, 114, 118, 97, 108], [115, 117, 115, 112, 101, 99, 116], [114, 101, 112, 108, 97, 99, 101], [99, 111, 114, 114, 101, 99, 116], [115, 101, 97, 108]]
theorem words_z (i : Nat) (h : i < 6) : ∃ z, wordsZ[i]? = some z ∧ wordS i = ⟨z.toArray⟩ := by
  rcases (show i = 0 ∨ i = 1 ∨ i = 2 ∨ i = 3 ∨ i = 4 ∨ i = 5 by omega) with rfl | rfl | rfl | rfl | rfl | rfl <;> exact ⟨_, rfl, rfl⟩
/-- An array of strings that reads as the table: its cells. -/
theorem cells_of_words {H : Type} {enc : TypeId × Value → H} {P : Program} {w : World} {base : Nat} {sp : Nat → Bool} {held : Bool} {fuel : Nat} {t e : TypeId} {n : Nat} {cs : List Value} {zs : List (List UInt8)} {p : List MemPlace}
    (ht : P.underlying t = some (.array n e)) (he : P.underlying e = some .string) (hce : P.cellsOf e = 1) (hct : P.cellsOf t = n)
    (h : DataW.trod enc P w base sp held fuel t cs = some (DataW.agg (zs.map fun z => DataW.lit (Lit.string z)), p)) : ∀ (i : Nat) (z : List UInt8), zs[i]? = some z → cs[i]? = some (Value.string ⟨z.toArray⟩) := by
  intro i z hi
  obtain ⟨xs, m, _, hx, hlen, hxs, hat⟩ := DataW.trod_array ht h
  have hx1 : xs.map (·.1) = zs.map fun z => (DataW.lit (.string z) : DataW H) := by
    have := congrArg Prod.fst hx
    simpa using this.symm
  have hzl : zs.length = n := by
    have h1 := congrArg List.length hx1
    simp at h1
    omega
  have hin : i < n := by rw [← hzl]; exact (List.getElem?_eq_some_iff.1 hi).1
  have h2 := hat i hin
  rw [hce, Nat.mul_one, List.getElem?_eq_getElem (by omega)] at h2
  obtain ⟨s, hc, hy, _⟩ := DataW.trod_string he h2
  have h3 : (xs.map (·.1))[i]? = some (DataW.lit (.string s.data.toList) : DataW H) := by
    rw [List.getElem?_map, List.getElem?_eq_getElem (by omega), hy]
    rfl
  rw [hx1, List.getElem?_map, hi] at h3
  simp only [Option.map_some, Option.some.injEq, DataW.lit.injEq, Lit.string.injEq] at h3
  subst h3
  have h5 := congrArg (·[0]?) hc
  simp only [List.getElem?_take, List.getElem?_drop, List.getElem?_cons_zero, Nat.zero_lt_one, if_true, Nat.add_zero] at h5
  simpa using h5
theorem words_of_head {W : World} {d : DataW Unit} {rest : List (String × DataW Unit)} (hd : d = DataW.agg (wordsZ.map fun z => DataW.lit (Lit.string z)))
    (h : laidMet Tryd.prog (("kilowatt/entry.words", d) :: rest) W) : WordsT W := by
  subst hd
  obtain ⟨ps, ⟨g', t', cs, fuel, p, q, hg', ht', hvar, hd, _, _⟩, _⟩ := h
  have hg : Tryd.prog.globalNamed "kilowatt/entry.words" = some 1 := by kernel_rfl
  have hty : (Tryd.prog.globals[1]?).map (·.type) = some 123 := by kernel_rfl
  obtain rfl := Option.some.inj (hg.symm.trans hg')
  obtain rfl := Option.some.inj (hty.symm.trans ht')
  intro i hi
  obtain ⟨z, hz, hw⟩ := words_z i hi
  have h3 := cells_of_words (by first | exact Tryd.underlying123 | kernel_rfl) Tryd.underlying9 (by kernel_rfl) (by kernel_rfl) hd i z hz
  rw [World.var?_cell hg hvar i, hw]
  simpa using h3
end Go.Proofs.YtnnknnaimabehaaDoor
namespace Go.Proofs.YtnnknnaimabehaaDoor
open Go.RowKit Go.ChangeShapes Go.WideShapes Go.ChangeAt
theorem open_entsC {H : Type} {enc : TypeId × Value → H} {W : World} {m : Nat} {cs : List Value} {x : DataW H × List MemPlace} (h : DataW.trod enc Tryd.prog W 0 (fun _ => true) true m 53 cs = some x) :
    ∃ (A : Option Addr) (n c : Nat) (es : List Ent), cs = [.slice A n c] ∧ EnI W A n es ∧ n ≤ maxLen ∧ n ≤ c := by
  obtain ⟨A, n, c, es, e, h1, h2⟩ := open_ents h
  refine ⟨A, n, c, es, e, h1, h2, ?_⟩
  rcases Go.Deep.open_slice Tryd.underlying53 h with ⟨hcs, _⟩ | ⟨ad, len, cap, m', n', D, Pl, hcs, _, hl, _⟩
  · rw [e] at hcs
    simp at hcs
    omega
  · rw [e] at hcs
    simp at hcs
    omega
end Go.Proofs.YtnnknnaimabehaaDoor
