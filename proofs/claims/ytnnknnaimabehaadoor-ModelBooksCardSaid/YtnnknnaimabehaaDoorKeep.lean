/- What a round of an iterator keeps: all blocks below n₁ but n₀, and all below n₀. -/
import Derived.Below
import Derived.Deep.Draws
import Derived.WalkKit
namespace Go.Proofs.YtnnknnaimabehaaDoor
open Go.RowKit
def Kx (n₀ n₁ : Nat) (W W' : World) : Prop := Below n₀ W W' ∧ ∀ k, k ≠ n₀ → k < n₁ → W'.heap[k]? = W.heap[k]?
theorem Kx.cell {n₀ n₁ : Nat} {W W' : World} (h : Kx n₀ n₁ W W') {p : Addr} (hp : p.block ≠ n₀) (hl : p.block < n₁) : W'.cell? p = W.cell? p := by
  unfold World.cell?; rw [h.2 _ hp hl]
theorem Kx.refl (n₀ n₁ : Nat) (W : World) : Kx n₀ n₁ W W := ⟨Below.refl _ _, fun _ _ _ => rfl⟩
theorem Kx.trans {n₀ n₁ : Nat} {A B C : World} (h : Kx n₀ n₁ A B) (k : Kx n₀ n₁ B C) : Kx n₀ n₁ A C := ⟨h.1.trans k.1, fun j h1 h2 => (k.2 j h1 h2).trans (h.2 j h1 h2)⟩
theorem Kx.drew {n₀ n₁ : Nat} {A B : World} (h : Kx n₀ n₁ A B) : Kx n₀ n₁ A B.drew := ⟨h.1.drew, h.2⟩
theorem Kx.of_below {n₀ n₁ : Nat} {A B : World} (h : Below n₁ A B) (hn : n₀ ≤ n₁) : Kx n₀ n₁ A B := ⟨h.mono hn, fun k _ hk => h.block k hk⟩
theorem Kx.set {n₀ n₁ : Nat} {A B : World} (h : Kx n₀ n₁ A B) (i : Nat) (v : Value) : Kx n₀ n₁ A (B.setCell ⟨n₀, i, none⟩ v) :=
  ⟨h.1.setCell (p := ⟨n₀, i, none⟩) (Nat.le_refl _) v, fun k h1 h2 => (Below.heap_setCell B ⟨n₀, i, none⟩ v k h1).trans (h.2 k h1 h2)⟩
end Go.Proofs.YtnnknnaimabehaaDoor
