/- Texts and bytes are undone as they were done. -/
import Derived.Test.YtnglajpmkjgbaaaRegsTextsLaw
namespace Go.Proofs.Ytnglajpmkjgbaaa
open Go.RowKit

theorem rbyte_txt (s : ByteArray) (m i : Nat) (hi : i < 2 * m) : rbyte (txtL s m s.size) i = chr s i := by
  rw [txtL_full]
  have hk : i / 2 < m := by omega
  have h1 : ((List.range m).map fun k => chr s (2 * k) * 256 + chr s (2 * k + 1)).getD (i / 2) 0 = chr s (2 * (i / 2)) * 256 + chr s (2 * (i / 2) + 1) := by
    rw [List.getD, List.getElem?_map, List.getElem?_range hk]; rfl
  have a := chr_in s (2 * (i / 2))
  have b := chr_in s (2 * (i / 2) + 1)
  unfold rbyte
  rw [h1]
  rcases Nat.mod_two_eq_zero_or_one i with h | h
  · rw [if_pos h]
    have e : 2 * (i / 2) = i := by omega
    rw [e] at a b ⊢
    omega
  · rw [if_neg (by omega)]
    have e : 2 * (i / 2) + 1 = i := by omega
    rw [e] at b ⊢
    omega
theorem strU_chr (s : ByteArray) : strU ((List.range s.size).map (chr s)) = s := by
  apply ByteArray.ext
  apply Array.ext'
  simp only [strU, List.map_map]
  apply List.ext_getElem?
  intro i
  rcases Nat.lt_or_ge i s.size with h | h
  · have hi : i < s.data.toList.length := by rw [Array.length_toList]; exact h
    rw [List.getElem?_map, List.getElem?_range h, List.getElem?_eq_getElem hi]
    simp only [Option.map_some, Function.comp, chr]
    congr 1
    rw [List.getD, List.getElem?_eq_getElem hi]
    simp
  · rw [List.getElem?_eq_none (by simpa using h), List.getElem?_eq_none (by rw [Array.length_toList]; exact h)]

theorem text_undone (s : ByteArray) (m : Nat) (hok : txtOk s m) (A : Option Addr) (c : Nat) (w : World) (hS : SlI w w.heap.size .u16 A m c (txtL s m s.size)) :
    Calls Try.prog 24 #[.slice A m c] w (fun e w' => e = .returned (.string s) ∧ Below w.heap.size w w') := by
  have hsz : s.size ≤ 2 * m := by have := hok.2.2.1; omega
  have hm := hok.2.1
  obtain ⟨zs, hzs⟩ : ∃ zs : List Reg, zs.map (·.1) = txtL s m s.size := regs_of _ (txtL_in s m s.size)
  have hzl : zs.length = m := by have := congrArg List.length hzs; simpa [txtL_len] using this
  have hb := bytesOf_rbytes zs
  rw [hzs, hzl] at hb
  have hat : ∀ i, i < 2 * m → (bytesOf zs)[i]? = some (chr s i) := fun i hi => by rw [hb, rbytes, List.getElem?_map, List.getElem?_range hi, Option.map_some, rbyte_txt s m i hi]
  refine ((callsIn_wide (n := 5)).1 (fromtext_in A m c zs (by omega) hzl w (by rw [hzs]; exact hS.2.2.2.2))).mono ?_
  rintro e w' ⟨⟨k', g1, g2, g3, rfl⟩, hbel⟩
  have : s.size = k' := by
    refine first_one (chr s) (2 * m) s.size k' hsz g1 hok.2.2.2 ?_ (fun i hi h0 => g2 i hi (by rw [hat i (by omega), h0])) ?_
    · rcases Nat.eq_or_lt_of_le hsz with h | h
      · exact Or.inl h
      · exact Or.inr (chr_out s _ (Nat.le_refl _))
    · rcases g3 with g3 | g3
      · exact Or.inl g3
      · rcases Nat.lt_or_ge k' (2 * m) with h | h
        · rw [hat k' h] at g3; exact Or.inr (by simpa using g3)
        · exact Or.inl (by omega)
  subst this
  refine ⟨?_, hbel⟩
  rw [hb, rbytes_take _ _ _ hsz, show rbytes (txtL s m s.size) s.size = (List.range s.size).map (chr s) from List.map_congr_left fun i hi => rbyte_txt s m i (by have h9 : i < s.size := (by simpa using hi); omega), strU_chr]

/-- Bytes out of registers, and back. -/
theorem bytes_undone (xs : List Int) : wordsK (bytesI xs) (List.finRange xs.length) = xs := by
  apply List.ext_getElem?
  intro k
  rcases Nat.lt_or_ge k xs.length with h | h
  · obtain ⟨x, hx⟩ : ∃ x, xs[k]? = some x := ⟨_, List.getElem?_eq_getElem h⟩
    obtain ⟨e1, e2⟩ := bytesI_at xs k x hx
    rw [hx, wordsK, List.getElem?_map, List.getElem?_eq_getElem (by rw [List.length_finRange]; exact h), List.getElem_finRange]
    simp only [Option.map_some, wordK]
    show some ((bytesI xs).getD (2 * k) 0 * 256 + (bytesI xs).getD (2 * k + 1) 0) = some x
    rw [List.getD, List.getD, e1, e2]
    simp only [Option.getD_some, Option.some.injEq]
    omega
  · rw [List.getElem?_eq_none (by simp [wordsK]; exact h), List.getElem?_eq_none h]
end Go.Proofs.Ytnglajpmkjgbaaa
