/- Rows' openers for the bus: the table of words, acts. -/
import Derived.Test.YtcipleanckeoaaaDoorZBusActs
import Derived.Test.YtcipleanckeoaaaDoorRows
import Derived.WalkKit
import Derived.ProofKit
import Derived.OpenShut
import Derived.ShutString
import Derived.ChangeOld
import Derived.Below
import Derived.ChangeArms
import Derived.Deep.SlicePairs
import Derived.Deep.Strs
import Derived.Lib.LaidTab
namespace Go.Proofs.YtcipleanckeoaaaDoor
open Go.ChangeShapes Go.WideShapes Go.ChangeAt Go.RowKit
set_option linter.unusedVariables false
set_option linter.unusedSimpArgs false
set_option maxRecDepth 100000
theorem names_z (i : Nat) (h : i < 8) : ∃ z, nameZ[i]? = some z ∧ nameS i = ⟨z.toArray⟩ := by
 rcases (show i = 0 ∨ i = 1 ∨ i = 2 ∨ i = 3 ∨ i = 4 ∨ i = 5 ∨ i = 6 ∨ i = 7 by omega) with rfl | rfl | rfl | rfl | rfl | rfl | rfl | rfl <;> exact ⟨_, rfl, rfl⟩
theorem cells_of_words {H : Type} {enc : TypeId × Value → H} {P : Program} {w : World} {base : Nat} {sp : Nat → Bool} {held : Bool} {fuel : Nat} {t e : TypeId} {n : Nat} {cs : List Value} {zs : List (List UInt8)} {p : List MemPlace}
  (ht : P.underlying t = some (.array n e)) (he : P.underlying e = some .string) (hce : P.cellsOf e = 1) (hct : P.cellsOf t = n)
  (h : DataW.trod enc P w base sp held fuel t cs = some (DataW.agg (zs.map fun z => DataW.lit (Lit.string z)), p)) : ∀ (i : Nat) (z : List UInt8), zs[i]? = some z → cs[i]? = some (Value.string ⟨z.toArray⟩) := by
 intro i z hi
 obtain ⟨xs, m, _, hx, hlen, hxs, hat⟩ := DataW.trod_array ht h
 have hx1 : xs.map (·.1) = zs.map fun z => (DataW.lit (.string z) : DataW H) := by
  have := congrArg Prod.fst hx
  simpa using this.symm
 have hzl : zs.length = n := by
  have h1 := congrArg List.length hx1
  simp at h1
  omega
 have hin : i < n := by rw [← hzl]; exact (List.getElem?_eq_some_iff.1 hi).1
 have h2 := hat i hin
 rw [hce, Nat.mul_one, List.getElem?_eq_getElem (by omega)] at h2
 obtain ⟨s, hc, hy, _⟩ := DataW.trod_string he h2
 have h3 : (xs.map (·.1))[i]? = some (DataW.lit (.string s.data.toList) : DataW H) := by
  rw [List.getElem?_map, List.getElem?_eq_getElem (by omega), hy]
  rfl
 rw [hx1, List.getElem?_map, hi] at h3
 simp only [Option.map_some, Option.some.injEq, DataW.lit.injEq, Lit.string.injEq] at h3
 subst h3
 have h5 := congrArg (·[0]?) hc
 simp only [List.getElem?_take, List.getElem?_drop, List.getElem?_cons_zero, Nat.zero_lt_one, if_true, Nat.add_zero] at h5
 simpa using h5
theorem names_of_head {W : World} {d : DataW Unit} {rest : List (String × DataW Unit)} (hd : d = DataW.agg (nameZ.map fun z => DataW.lit (Lit.string z)))
  (h : laidMet Tryd.prog (("kilowatt/bus.names", d) :: rest) W) : NamesT W := by
 subst hd
 obtain ⟨ps, ⟨g', t', cs, fuel, p, q, hg', ht', hvar, hd, _, _⟩, _⟩ := h
 have hg : Tryd.prog.globalNamed "kilowatt/bus.names" = some 0 := by kernel_rfl
 have hty : (Tryd.prog.globals[0]?).map (·.type) = some 122 := by kernel_rfl
 obtain rfl := Option.some.inj (hg.symm.trans hg')
 obtain rfl := Option.some.inj (hty.symm.trans ht')
 intro i hi
 obtain ⟨z, hz, hw⟩ := names_z i hi
 have h3 := cells_of_words (by first | exact Tryd.underlying122 | kernel_rfl) Tryd.underlying9 (by kernel_rfl) (by kernel_rfl) hd i z hz
 rw [World.var?_cell hg hvar i, hw]
 simpa using h3
end Go.Proofs.YtcipleanckeoaaaDoor
