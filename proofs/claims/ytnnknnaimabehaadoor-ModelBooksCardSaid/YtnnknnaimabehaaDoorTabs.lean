/- A package-level table of rows of integers, as the row's list tells it. No program in sight. -/
import Derived.Deep.MidRow
import Derived.Lib.LaidTab
import Derived.OpenShut
namespace Go.Proofs.YtnnknnaimabehaaDoor
open Go.RowKit

theorem rows_of_tab {H : Type} {enc : TypeId × Value → H} {P : Program} {w : World} {base : Nat} {sp : Nat → Bool} {held : Bool} {fuel : Nat} {t e : TypeId} {n m : Nat} {k : IntKind} {cs : List Value} {rows : List (List Int)} {p : List MemPlace} {fs : Array Field}
    (ht : P.underlying t = some (.array n e)) (he : P.underlying e = some (.struct fs)) (hce : P.cellsOf e = m) (hct : P.cellsOf t = n * m) (hm : fs.size = m)
    (hf : ∀ (j : Nat) (f : Field), fs[j]? = some f → f.offset = j ∧ P.underlying f.type = some (.int k) ∧ P.cellsOf f.type = 1)
    (h : DataW.trod enc P w base sp held fuel t cs = some (.agg (rows.map fun r => .agg (r.map fun z => .lit (.int k z))), p)) :
    ∀ i r j z, rows[i]? = some r → r[j]? = some z → cs[i * m + j]? = some (.int k z) := by
  intro i r j z hi hj
  cases fuel with
  | zero => simp [DataW.trod] at h
  | succ fuel =>
    simp only [DataW.trod, ht, hce, hct] at h
    split at h
    · rename_i hl
      obtain ⟨xs, hmm, hx⟩ := Option.map_eq_some_iff.1 h
      have hxs : xs.map (·.1) = rows.map fun r => (DataW.agg (r.map fun z => .lit (.int k z)) : DataW H) := by
        have := congrArg Prod.fst hx
        simpa using this
      have hxl : xs.length = n := by simpa using Lib.mapM_length hmm
      have hin : i < n := by
        have h1 := congrArg List.length hxs
        simp at h1
        have h2 := (List.getElem?_eq_some_iff.1 hi).1
        omega
      obtain ⟨b, hb, hfb⟩ := Lib.mapM_at hmm i i (by simp [hin])
      have hb1 : b.1 = DataW.agg (r.map fun z => .lit (.int k z)) := by
        have h1 : (xs.map (·.1))[i]? = some b.1 := by simp [hb]
        rw [hxs, List.getElem?_map, hi] at h1
        exact (Option.some.inj h1).symm
      obtain ⟨ys, q, _, hbe, hyl, hlen, hat⟩ := DataW.trod_struct he hfb
      rw [hbe] at hb1
      have hys : ys.map (·.1) = r.map fun z => (DataW.lit (.int k z) : DataW H) := by simpa using hb1
      have hjl : j < fs.size := by
        have h1 := congrArg List.length hys
        simp at h1
        have h2 := (List.getElem?_eq_some_iff.1 hj).1
        try simp at hlen
        omega
      obtain ⟨o1, o2, o3⟩ := hf j fs[j] (Array.getElem?_eq_getElem hjl)
      have h3 := hat j fs[j] (Array.getElem?_eq_getElem hjl)
      have hyj : j < ys.length := by (try simp at hlen); omega
      rw [List.getElem?_eq_getElem hyj] at h3
      obtain ⟨z', hc, hy, _⟩ := DataW.trod_int o2 h3
      have h4 : (ys.map (·.1))[j]? = some (DataW.lit (.int k z') : DataW H) := by
        rw [List.getElem?_map, List.getElem?_eq_getElem hyj, hy]
        rfl
      rw [hys, List.getElem?_map, hj] at h4
      simp only [Option.map_some, Option.some.injEq, DataW.lit.injEq, Lit.int.injEq, true_and] at h4
      subst h4
      rw [o1, o3] at hc
      have h5 := congrArg (·[0]?) hc
      simp only [List.getElem?_take, List.getElem?_drop, List.getElem?_cons_zero, Nat.zero_lt_one, if_true, Nat.add_zero] at h5
      rw [if_pos (by omega)] at h5
      exact h5
    · cases h
/-- The table's cells. -/
theorem range_of_head {P : Program} {W : World} {name : String} {k : IntKind} {rows : List (List Int)} {rest : List (String × DataW Unit)} {g : Nat} {t e : TypeId} {n m : Nat} {fs : Array Field} {d : DataW Unit} {L : List Value}
    (hg : P.globalNamed name = some g) (hty : (P.globals[g]?).map (·.type) = some t) (ht : P.underlying t = some (.array n e)) (he : P.underlying e = some (.struct fs)) (hce : P.cellsOf e = m) (hct : P.cellsOf t = n * m) (hm : fs.size = m)
    (hf : ∀ (j : Nat) (f : Field), fs[j]? = some f → f.offset = j ∧ P.underlying f.type = some (.int k) ∧ P.cellsOf f.type = 1)
    (hd : d = .agg (rows.map fun r => .agg (r.map fun z => .lit (.int k z))))
    (hL : ∀ i v, L[i]? = some v → ∃ r z, rows[i / m]? = some r ∧ r[i % m]? = some z ∧ v = .int k z)
    (h : laidMet P ((name, d) :: rest) W) : W.rangeAt g 0 L := by
  subst hd
  obtain ⟨ps, ⟨g', t', cs, fuel, p, q, hg', ht', hvar, hd, _, _⟩, _⟩ := h
  obtain rfl := Option.some.inj (hg.symm.trans hg')
  obtain rfl := Option.some.inj (hty.symm.trans ht')
  intro i v hi
  obtain ⟨r, z, h1, h2, rfl⟩ := hL i v hi
  have h3 := rows_of_tab ht he hce hct hm hf hd _ _ _ _ h1 h2
  rw [Nat.div_add_mod'] at h3
  rw [Nat.zero_add]
  have := World.var?_cell hg hvar i
  rw [this]
  simpa using h3
end Go.Proofs.YtnnknnaimabehaaDoor
