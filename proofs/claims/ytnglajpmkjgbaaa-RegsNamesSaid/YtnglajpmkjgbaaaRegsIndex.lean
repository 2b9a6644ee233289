/- Where the first nought stands. -/
import Derived.ProofKit
import Derived.Lib.Bytealg
import Derived.Test.YtnglajpmkjgbaaaShelf
namespace Go.Proofs.Ytnglajpmkjgbaaa
theorem index_spec (l : List UInt8) (c : UInt8) : (Lib.indexByte l c = -1 ∧ ∀ y ∈ l, y ≠ c) ∨ ∃ k : Nat, Lib.indexByte l c = k ∧ l[k]? = some c ∧ ∀ i, i < k → l[i]? ≠ some c := by
  induction l with
  | nil => exact Or.inl ⟨rfl, by simp⟩
  | cons b l ih =>
    unfold Lib.indexByte
    by_cases hb : b = c
    · subst hb
      exact Or.inr ⟨0, by simp, by simp, fun i hi => by omega⟩
    · have h1 : (b == c) = false := by simpa using hb
      rw [h1]
      rcases ih with ⟨h2, h3⟩ | ⟨k, h2, h3, h4⟩
      · rw [h2]
        exact Or.inl ⟨rfl, fun y hy => by
          rcases List.mem_cons.1 hy with rfl | hy
          · exact hb
          · exact h3 y hy⟩
      · rw [h2]
        have h5 : (((k : Nat) : Int) == -1) = false := by simp
        refine Or.inr ⟨k + 1, by simp [h5], by simpa using h3, fun i hi => ?_⟩
        cases i with
        | zero => simpa using hb
        | succ i => simpa using h4 i (by omega)
theorem index_ints (L : List Int) (hL : ∀ y ∈ L, 0 ≤ y ∧ y < 256) : (Lib.indexByte (Lib.bytesOf L) 0 = -1 ∧ ∀ y ∈ L, y ≠ 0) ∨ ∃ k : Nat, Lib.indexByte (Lib.bytesOf L) 0 = k ∧ k < L.length ∧ L[k]? = some 0 ∧ ∀ i, i < k → L[i]? ≠ some 0 := by
  have hz : ∀ y ∈ L, (UInt8.ofNat y.toNat = 0 ↔ y = 0) := fun y hy => by
    have := hL y hy
    constructor
    · intro h
      have h1 := congrArg UInt8.toNat h
      simp at h1
      omega
    · rintro rfl; rfl
  have hm : Lib.bytesOf L = L.map fun y => UInt8.ofNat y.toNat := rfl
  rw [hm]
  rcases index_spec (L.map fun y => UInt8.ofNat y.toNat) 0 with ⟨h1, h2⟩ | ⟨k, h1, h2, h3⟩
  · exact Or.inl ⟨h1, fun y hy h0 => h2 _ (List.mem_map_of_mem hy) ((hz y hy).2 h0)⟩
  · rw [List.getElem?_map, Option.map_eq_some_iff] at h2
    obtain ⟨y, hy, hy0⟩ := h2
    have := (hz y (List.mem_of_getElem? hy)).1 hy0
    subst this
    refine Or.inr ⟨k, h1, (List.getElem?_eq_some_iff.1 hy).1, hy, fun i hi h0 => h3 i hi ?_⟩
    rw [List.getElem?_map, h0]
    rfl
theorem indexb_at (b n c : Nat) (xs : List Int) (w : World) (q : Int) (hx : xs.length = n) (hc : ∀ i, i < n → w.cell? ⟨b, i, none⟩ = some (.int .u8 (xs.getD i 0))) (hq : Lib.indexByte (Lib.bytesOf xs) 0 = q) :
    Calls Try.prog 37 #[.slice (some ⟨b, 0, none⟩) n c, .int .u8 0] w fun e w' => e = .returned (.int .i64 q) ∧ w = w' := by
  subst hq
  exact (Try.bytes_IndexByte b 0 n c xs 0 w hx (fun i hi => by rw [Nat.zero_add]; exact hc i hi)).mono fun _ _ ⟨h, h'⟩ => ⟨h, h'.symm⟩
end Go.Proofs.Ytnglajpmkjgbaaa
