/- A region's text is one of its orders, shown piece by piece (a region of a hundred operations is too much for the kernel in one declaration). -/
import Derived.Still
namespace Go.Proofs.YtnnknnaimabehaaDoor
def lexN (md : Region.Mode) (ops : Array Oper) : Nat → Nat → Array Bool → Bool
  | 0, _, _ => true
  | n + 1, k, listed => (Region.ready md ops listed).contains k && Region.free md ops listed k && lexN md ops n (k + 1) (listed.setIfInBounds k true)
def lstN : Nat → Nat → Array Bool → Array Bool
  | 0, _, l => l
  | n + 1, k, l => lstN n (k + 1) (l.setIfInBounds k true)
def lst (size k : Nat) : Array Bool := lstN k 0 (Array.replicate size false)
theorem lstN_add (m : Nat) : ∀ (n k : Nat) (l : Array Bool), lstN (n + m) k l = lstN m (k + n) (lstN n k l) := by
  intro n
  induction n with
  | zero => intro k l; simp [lstN]
  | succ n ih =>
    intro k l
    rw [show n + 1 + m = (n + m) + 1 by omega]
    show lstN (n + m) (k + 1) _ = lstN m (k + (n + 1)) (lstN n (k + 1) _)
    rw [ih, show k + 1 + n = k + (n + 1) by omega]
theorem lexN_from {md : Region.Mode} {ops : Array Oper} (m : Nat) : ∀ (n k : Nat) (l : Array Bool), lexN md ops n k l = true → Region.lexFrom md ops m (k + n) (lstN n k l) = true → Region.lexFrom md ops (n + m) k l = true := by
  intro n
  induction n with
  | zero => intro k l _ h; simpa [lstN] using h
  | succ n ih =>
    intro k l h1 h2
    simp only [lexN, Bool.and_eq_true] at h1
    rw [show n + 1 + m = (n + m) + 1 by omega]
    simp only [Region.lexFrom, Bool.and_eq_true]
    refine ⟨⟨h1.1.1, h1.1.2⟩, ih (k + 1) _ h1.2 ?_⟩
    rw [show k + 1 + n = k + (n + 1) by omega]
    exact h2
theorem lexB_four {md : Region.Mode} {ops : Array Oper} (a b c d : Nat) (hsz : ops.size = a + (b + (c + (d + 0)))) (h0 : Region.noSelect ops = true) (h1 : lexN md ops a 0 (lst ops.size 0) = true) (h2 : lexN md ops b a (lst ops.size a) = true)
    (h3 : lexN md ops c (a + b) (lst ops.size (a + b)) = true) (h4 : lexN md ops d (a + b + c) (lst ops.size (a + b + c)) = true) (h5 : (Region.ready md ops (lst ops.size (a + b + c + d))).isEmpty = true) : Region.lexB md ops = true := by
  unfold Region.lexB
  rw [h0, Bool.true_and]
  have e : ∀ n m, lst ops.size (n + m) = lstN m n (lst ops.size n) := fun n m => by
    unfold lst
    rw [lstN_add m n 0, Nat.zero_add]
  generalize hS : ops.size = S at *
  rw [hsz]
  have z : Array.replicate (a + (b + (c + (d + 0)))) false = lst S 0 := by rw [← hsz]; rfl
  rw [z]
  refine lexN_from _ a 0 _ h1 ?_
  rw [← e 0 a, Nat.zero_add]
  refine lexN_from _ b a _ h2 ?_
  rw [← e]
  refine lexN_from _ c (a + b) _ h3 ?_
  rw [← e]
  refine lexN_from _ d (a + b + c) _ h4 ?_
  rw [← e]
  exact h5
end Go.Proofs.YtnnknnaimabehaaDoor
