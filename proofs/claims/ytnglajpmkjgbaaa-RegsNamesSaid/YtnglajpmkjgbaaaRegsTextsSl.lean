/- The contracts of texts in registers, at slices that are whole. -/
import Derived.Test.YtnglajpmkjgbaaaRegsText
import Derived.Test.YtnglajpmkjgbaaaRegsFromText
import Derived.Test.YtnglajpmkjgbaaaRegsLaws
namespace Go.Proofs.Ytnglajpmkjgbaaa
open Go.RowKit

/-- Where the first nought is, or the end: it is one. -/
theorem first_one (f : Nat → Int) (N k k' : Nat) (hk : k ≤ N) (hk' : k' ≤ N) (h1 : ∀ i, i < k → f i ≠ 0) (h2 : k = N ∨ f k = 0) (h1' : ∀ i, i < k' → f i ≠ 0) (h2' : k' = N ∨ f k' = 0) : k = k' := by
  rcases Nat.lt_trichotomy k k' with h | h | h
  · rcases h2 with h3 | h3
    · omega
    · exact absurd h3 (h1' k h)
  · exact h
  · rcases h2' with h3 | h3
    · omega
    · exact absurd h3 (h1 k' h)
theorem first_is (f : Nat → Int) (N : Nat) : ∃ k, k ≤ N ∧ (∀ i, i < k → f i ≠ 0) ∧ (k = N ∨ f k = 0) := by
  induction N with
  | zero => exact ⟨0, Nat.le_refl _, fun i hi => by omega, Or.inl rfl⟩
  | succ N ih =>
    obtain ⟨k, h1, h2, h3⟩ := ih
    rcases h3 with rfl | h3
    · by_cases h0 : f k = 0
      · exact ⟨k, by omega, h2, Or.inr h0⟩
      · exact ⟨k + 1, Nat.le_refl _, fun i hi => by
          rcases Nat.lt_or_ge i k with h | h
          · exact h2 i h
          · rw [show i = k by omega]; exact h0, Or.inl rfl⟩
    · exact ⟨k, by omega, h2, Or.inr h3⟩
theorem bytesOf_rbytes (zs : List Reg) : bytesOf zs = rbytes (zs.map (·.1)) (2 * zs.length) := by
  apply List.ext_getElem?
  intro i
  rcases Nat.lt_or_ge i (2 * zs.length) with hi | hi
  · have hr : (rbytes (zs.map (·.1)) (2 * zs.length))[i]? = some (rbyte (zs.map (·.1)) i) := by rw [rbytes, List.getElem?_map, List.getElem?_range hi]; rfl
    rw [hr]
    induction zs generalizing i with
    | nil => simp at hi
    | cons z zs ih =>
      show ([z.1 / 256, z.1 % 256] ++ bytesOf zs)[i]? = _
      rcases Nat.lt_or_ge i 2 with h | h
      · have : i = 0 ∨ i = 1 := by omega
        rcases this with rfl | rfl <;> simp [rbyte]
      · obtain ⟨j, rfl⟩ : ∃ j, i = j + 2 := ⟨i - 2, by omega⟩
        simp only [List.length_cons] at hi
        have := ih j (by omega) (by rw [rbytes, List.getElem?_map, List.getElem?_range (by omega)]; rfl)
        have e : rbyte ((z :: zs).map (·.1)) (j + 2) = rbyte (zs.map (·.1)) j := by
          unfold rbyte
          rw [show (j + 2) / 2 = j / 2 + 1 by omega, show (j + 2) % 2 = j % 2 by omega]
          simp
        rw [e, ← this]
        rfl
  · rw [List.getElem?_eq_none (by rw [bytesOf_len]; exact hi), List.getElem?_eq_none (by simp [rbytes]; exact hi)]
theorem rbytes_take (xs : List Int) (N k : Nat) (h : k ≤ N) : (rbytes xs N).take k = rbytes xs k := by
  unfold rbytes; rw [← List.map_take, List.take_range, Nat.min_eq_left h]

theorem fromtexts_sl (xs : List Int) (n : Nat) (hn : xs.length = n) (h1 : n ≤ 1000) (hx : ∀ x ∈ xs, 0 ≤ x ∧ x < 65536) : ∃ S : ByteArray, ∀ (A : Option Addr) (c : Nat) (w : World), SlI w w.heap.size .u16 A n c xs →
    Calls Try.prog 24 #[.slice A n c] w (fun e w' => e = .returned (.string S) ∧ Below w.heap.size w w') ∧
    Calls Try.prog 25 #[.slice A n c] w (fun e w' => e = .returned (.string S) ∧ Below w.heap.size w w') := by
  obtain ⟨k, hk, h2, h3⟩ := first_is (rbyte xs) (2 * n)
  refine ⟨strU (rbytes xs k), fun A c w hS => ⟨?_, ?_⟩⟩
  · obtain ⟨zs, hzs⟩ : ∃ zs : List Reg, zs.map (·.1) = xs := ⟨xs.attach.map fun x => ⟨x.1, hx x.1 x.2⟩, by simp⟩
    have hzl : zs.length = n := by rw [← hn, ← hzs]; simp
    have hb := bytesOf_rbytes zs
    rw [hzs, hzl] at hb
    have hat : ∀ i, i < 2 * n → (bytesOf zs)[i]? = some (rbyte xs i) := fun i hi => by rw [hb, rbytes, List.getElem?_map, List.getElem?_range hi]; rfl
    have C := (callsIn_wide (n := 5)).1 (fromtext_in A n c zs (by omega) hzl w (by rw [hzs]; exact hS.2.2.2.2))
    refine C.mono ?_
    rintro e w' ⟨⟨k', g1, g2, g3, rfl⟩, hbel⟩
    have : k = k' := by
      refine first_one (rbyte xs) (2 * n) k k' hk g1 h2 h3 (fun i hi h0 => g2 i hi (by rw [hat i (by omega), h0])) ?_
      rcases g3 with g3 | g3
      · exact Or.inl g3
      · rcases Nat.lt_or_ge k' (2 * n) with h | h
        · rw [hat k' h] at g3; exact Or.inr (by simpa using g3)
        · exact Or.inl (by omega)
    subst this
    exact ⟨by rw [hb, rbytes_take _ _ _ hk], hbel⟩
  · have C := reffrom_any A c xs (by omega) hx w hS.2.2.2.2
    rw [hn] at C
    refine C.mono ?_
    rintro e w' ⟨⟨k', g1, g2, g3, rfl⟩, hbel⟩
    rw [hn] at g1 g3
    rw [first_one (rbyte xs) (2 * n) k k' hk g1 h2 h3 g2 g3]
    exact ⟨rfl, hbel⟩

theorem txtL_in (s : ByteArray) (m i : Nat) : ∀ x ∈ txtL s m i, 0 ≤ x ∧ x < 65536 := by
  intro x hx
  simp only [txtL, List.mem_map] at hx
  obtain ⟨k, _, rfl⟩ := hx
  exact txtAt_in _ _ _
/-- What a text's slice is, as both answer. -/
def TxtIs (T : List Int) (n : Int) (w : World) (e : Ending) (w' : World) : Prop := ∃ A k c, e = .returned (.tuple #[.slice A k c, .int .i64 n]) ∧ SlI w' w'.heap.size .u16 A k c T ∧ Below w.heap.size w w'
theorem txt_is (s : ByteArray) (many : Int) : ∃ (T : List Int) (n : Int), (T.length ≤ 125) ∧ (∀ x ∈ T, 0 ≤ x ∧ x < 65536) ∧ ∀ w e w', TextPost s many w e w' → TxtIs T n w e w' := by
  by_cases h : txtOk s many
  · obtain ⟨m, rfl⟩ := Int.eq_ofNat_of_zero_le h.1
    have hm := h.2.1
    refine ⟨txtL s m s.size, 0, by rw [txtL_len]; omega, txtL_in _ _ _, ?_⟩
    rintro w e w' (⟨_, u, k, hk, rfl, hown, hb⟩ | ⟨h', _⟩)
    · obtain rfl : k = m := by omega
      obtain ⟨A, c, rfl, hS⟩ := SlI.of_own hown
      exact ⟨A, k, c, rfl, hS, hb⟩
    · exact (h' h).elim
  · refine ⟨[], 20, by simp, by simp, ?_⟩
    rintro w e w' (⟨h', _⟩ | ⟨_, rfl, hb⟩)
    · exact (h h').elim
    · exact ⟨none, 0, 0, rfl, SlI.nil _ _ _, hb⟩

theorem frombytes_odd (A : Option Addr) (n c : Nat) (hn : n % 2 = 1) (hn2 : n ≤ 1000000) (w : World) :
    Calls Try.prog 23 #[.slice A n c] w fun e w' => e = .returned (.tuple #[.slice none 0 0, .int .i64 20]) ∧ w = w' := by
  have h1 : ((n : Int) % 2 != 0) = true := by simp; omega
  go_in; go_wp2; go_ret2; exact ⟨rfl, rfl⟩
theorem frombytes_even (A : Option Addr) (n c m : Nat) (xs : List Int) (hn : n = 2 * m) (hn2 : n ≤ 1000000) (hx : ∀ x ∈ xs, 0 ≤ x ∧ x < 256) (w : World) (hS : SlI w w.heap.size .u8 A n c xs) :
    Calls Try.prog 23 #[.slice A n c] w fun e w' => TxtIs (wordsK xs (List.finRange m)) 0 w e w' := by
  refine ((callsIn_wide (n := 5)).1 (frombytes_in A n c m xs hn2 hn hS.2.1 hS.1 hx w hS.2.2.2.2)).mono ?_
  rintro e w' ⟨v, rfl, hown, hb⟩
  obtain ⟨A', c', rfl, hS'⟩ := SlI.of_own hown
  exact ⟨A', m, c', rfl, hS', hb⟩
end Go.Proofs.Ytnglajpmkjgbaaa
