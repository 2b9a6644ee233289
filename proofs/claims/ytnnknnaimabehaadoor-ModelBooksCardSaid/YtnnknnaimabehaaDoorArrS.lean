/- An array of strings that comes in by value: its cells, and what they are. -/
import Derived.Test.YtnnknnaimabehaaDoorArr
import Derived.ChangeArms
namespace Go.Proofs.YtnnknnaimabehaaDoor
open Go.ChangeShapes Go.WideShapes Go.ChangeAt Go.RowKit
section
variable {H : Type} {enc : TypeId × Value → H} {P : Program} {W : World} {base : Nat} {sp : Nat → Bool} {held : Bool}
theorem open_arr_strs {t e : TypeId} {n : Nat} {cs : Array Value} {d : DataW H} {ps : List MemPlace} (ht : P.underlying t = some (.array n e)) (he : P.underlying e = some .string) (h1 : P.cellsOf e = 1) (hn : P.cellsOf t = n)
    (hd : DataW.Trod enc P W base sp held t (.agg cs) d ps) : ∃ zs : List ByteArray, cs = (zs.map Value.string).toArray ∧ zs.length = n ∧ ∀ z ∈ zs, z.size ≤ maxLen := by
  obtain ⟨fuel, hf⟩ := hd
  obtain ⟨xs, m, rfl, _, hlen, hxs, hat⟩ := DataW.trod_array ht hf
  obtain ⟨l⟩ := cs
  simp only [Value.cells] at hlen hat
  have hl : l.length = n := by simpa [hn] using hlen
  have hone : ∀ i, i < n → ∃ z, l[i]? = some (.string z) ∧ z.size ≤ maxLen := fun i hi => by
    have h2 := hat i hi
    rw [h1, Nat.mul_one] at h2
    have hi' : i < l.length := by omega
    have e1 : (l.drop i).take 1 = [l[i]] := by
      rw [List.drop_eq_getElem_cons hi', List.take_succ_cons, List.take_zero]
    rw [e1, List.getElem?_eq_getElem (by omega)] at h2
    obtain ⟨z, hz, _, hw⟩ := DataW.trod_string he h2
    exact ⟨z, by rw [List.getElem?_eq_getElem hi']; simpa using hz, hw⟩
  clear hat hf hlen
  have : ∀ (l : List Value), (∀ i, i < l.length → ∃ z, l[i]? = some (.string z) ∧ z.size ≤ maxLen) → ∃ zs : List ByteArray, l = zs.map Value.string ∧ ∀ z ∈ zs, z.size ≤ maxLen := by
    intro l
    induction l with
    | nil => intro _; exact ⟨[], rfl, by simp⟩
    | cons v l ih =>
      intro h
      obtain ⟨z, hz, hw⟩ := h 0 (by simp)
      obtain ⟨zs, rfl, hzs⟩ := ih (fun i hi => by
        have := h (i + 1) (by simpa using hi)
        simpa using this)
      refine ⟨z :: zs, by simpa using hz, fun y hy => ?_⟩
      rcases List.mem_cons.1 hy with rfl | hy
      · exact hw
      · exact hzs y hy
  obtain ⟨zs, rfl, hzs⟩ := this l (fun i hi => hone i (by omega))
  exact ⟨zs, rfl, by simpa using hl, hzs⟩
end
end Go.Proofs.YtnnknnaimabehaaDoor
