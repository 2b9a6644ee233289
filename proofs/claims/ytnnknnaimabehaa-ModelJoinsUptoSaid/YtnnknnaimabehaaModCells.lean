/- Blocks al rows of cells. -/
import Derived.Test.YtnnknnaimabehaaModImg
import Derived.Test.YtnnknnaimabehaaRowV
namespace Go.Proofs.Ytnnknnaimabehaa
open Go.RowKit
set_option linter.unusedVariables false
/-- The cells of blocks. -/
def BkC (W : World) (B : Nat) : List Value → List BlkP → Prop
  | cs, [] => cs = []
  | cs, b :: bs => ∃ Ap np cp Av nv cv cs', cs = [.int .i64 b.id, .slice Ap np cp, .slice Av nv cv] ++ cs' ∧ PtI W B Ap np cp b.pts ∧ VlI W B Av nv cv b.vals ∧ (∀ v ∈ b.vals, ValIn v) ∧ BkC W B cs' bs
theorem BkC.append {W : World} {B : Nat} {al : List BlkP} : ∀ {cs ds : List Value} {bs : List BlkP}, BkC W B cs al → BkC W B ds bs → BkC W B (cs ++ ds) (al ++ bs) := by
  induction al with
  | nil => intro cs ds bs h h2; subst h; exact h2
  | cons a al ih =>
    intro cs ds bs h h2
    obtain ⟨Ap, np, cp, Av, nv, cv, cs', rfl, h3, h4, h5, h6⟩ := h
    exact ⟨Ap, np, cp, Av, nv, cv, cs' ++ ds, by simp, h3, h4, h5, ih h6 h2⟩
theorem BkC.up {w w' : World} {al : List BlkP} (hb : Below w.heap.size w w') : ∀ {cs : List Value}, BkC w w.heap.size cs al → BkC w' w'.heap.size cs al := by
  induction al with
  | nil => intro cs h; exact h
  | cons a al ih =>
    intro cs h
    obtain ⟨Ap, np, cp, Av, nv, cv, cs', rfl, h3, h4, h5, h6⟩ := h
    exact ⟨Ap, np, cp, Av, nv, cv, cs', rfl, h3.up hb, h4.up hb, h5, ih h6⟩
theorem BkC.len {W : World} {B : Nat} {al : List BlkP} : ∀ {cs : List Value}, BkC W B cs al → cs.length = al.length * 3 := by
  induction al with
  | nil => intro cs h; subst h; rfl
  | cons a al ih =>
    intro cs h
    obtain ⟨Ap, np, cp, Av, nv, cv, cs', rfl, h3, h4, h5, h6⟩ := h
    have := ih h6
    simp [this]
    omega
theorem BkC.one {W : World} {B : Nat} {al : List BlkP} : ∀ {cs : List Value}, BkC W B cs al → ∀ u ∈ cs, u.oneCell' = true := by
  induction al with
  | nil => intro cs h u hu; subst h; cases hu
  | cons a al ih =>
    intro cs h u hu
    obtain ⟨Ap, np, cp, Av, nv, cv, cs', rfl, h3, h4, h5, h6⟩ := h
    simp only [List.cons_append, List.nil_append, List.mem_cons] at hu
    rcases hu with rfl | rfl | rfl | hu
    · rfl
    · rfl
    · rfl
    · exact ih h6 u hu
theorem BkC.at_ {W : World} {B : Nat} {al : List BlkP} : ∀ {cs : List Value}, BkC W B cs al → ∀ i b, al[i]? = some b → ∃ Ap np cp Av nv cv, cs[i * 3]? = some (.int .i64 b.id) ∧ cs[i * 3 + 1]? = some (.slice Ap np cp) ∧ cs[i * 3 + 2]? = some (.slice Av nv cv) ∧ PtI W B Ap np cp b.pts ∧ VlI W B Av nv cv b.vals ∧ ∀ v ∈ b.vals, ValIn v := by
  induction al with
  | nil => intro cs h i b hb; cases hb
  | cons a al ih =>
    intro cs h i b hb
    obtain ⟨Ap, np, cp, Av, nv, cv, cs', rfl, h3, h4, h5, h6⟩ := h
    cases i with
    | zero =>
      obtain rfl : a = b := by simpa using hb
      exact ⟨Ap, np, cp, Av, nv, cv, rfl, rfl, rfl, h3, h4, h5⟩
    | succ i =>
      obtain ⟨Ap', np', cp', Av', nv', cv', k1, k2, k3, k4⟩ := ih h6 i b (by simpa using hb)
      have e0 : (i + 1) * 3 = i * 3 + 1 + 1 + 1 := by omega
      have e1 : (i + 1) * 3 + 1 = i * 3 + 1 + 1 + 1 + 1 := by omega
      have e2 : (i + 1) * 3 + 2 = i * 3 + 2 + 1 + 1 + 1 := by omega
      rw [e1, e2, e0]
      refine ⟨Ap', np', cp', Av', nv', cv', ?_, ?_, ?_, k4⟩
      · simpa using k1
      · simpa using k2
      · simpa using k3
theorem bkc_of {W : World} {B g : Nat} (bs : List BlkP) : ∀ off, (∀ i b, bs[i]? = some b → ∃ Ap np cp Av nv cv, W.cell? ⟨g, off + i * 3, none⟩ = some (.int .i64 b.id) ∧ W.cell? ⟨g, off + i * 3 + 1, none⟩ = some (.slice Ap np cp) ∧ W.cell? ⟨g, off + i * 3 + 2, none⟩ = some (.slice Av nv cv) ∧ PtI W B Ap np cp b.pts ∧ VlI W B Av nv cv b.vals ∧ ∀ v ∈ b.vals, ValIn v) →
    ∃ cs, BkC W B cs bs ∧ ∀ j v, cs[j]? = some v → W.cell? ⟨g, off + j, none⟩ = some v := by
  induction bs with
  | nil => intro off h; exact ⟨[], rfl, fun j v h => by simp at h⟩
  | cons b bs ih =>
    intro off h
    obtain ⟨cs', h1, h2⟩ := ih (off + 3) (fun i c hc => by
      have := h (i + 1) c (by simpa using hc)
      rw [show off + (i + 1) * 3 = off + 3 + i * 3 by omega] at this
      exact this)
    obtain ⟨Ap, np, cp, Av, nv, cv, k1, k2, k3, k4, k5, k6⟩ := h 0 b rfl
    refine ⟨_, ⟨Ap, np, cp, Av, nv, cv, cs', rfl, k4, k5, k6, h1⟩, fun j v hj => ?_⟩
    match j, hj with
    | 0, hj => obtain rfl := Option.some.inj hj; simpa using k1
    | 1, hj => obtain rfl := Option.some.inj hj; simpa using k2
    | 2, hj => obtain rfl := Option.some.inj hj; simpa using k3
    | j + 3, hj =>
      have := h2 j v (by simpa using hj)
      rw [show off + (j + 3) = off + 3 + j by omega]
      exact this
theorem BkI.cells {W : World} {B : Nat} {A : Option Addr} {n c : Nat} {bs : List BlkP} (h : BkI W B A n c bs) : ∃ cs, SlV W B A n c 3 cs ∧ BkC W B cs bs := by
  obtain ⟨h1, h2, h3, h4, h5⟩ := h
  by_cases hn : 0 < n
  · obtain ⟨g, off, e, hg, hc⟩ := h5 hn
    obtain ⟨cs, k1, k2⟩ := bkc_of bs off hc
    exact ⟨cs, ⟨by rw [k1.len, h1], h2, h3, h4, fun _ => ⟨g, off, e, hg, k2⟩⟩, k1⟩
  · obtain rfl : n = 0 := by omega
    obtain rfl := List.length_eq_zero_iff.1 h1
    exact ⟨[], ⟨rfl, h2, h3, h4, fun h => absurd h (by simp)⟩, rfl⟩
theorem BkI.of_cells {W : World} {B : Nat} {A : Option Addr} {n c : Nat} {bs : List BlkP} {cs : List Value} (h : SlV W B A n c 3 cs) (hc : BkC W B cs bs) : BkI W B A n c bs := by
  have hl := hc.len
  have hl2 := h.1
  refine ⟨by omega, h.2.1, h.2.2.1, h.2.2.2.1, fun hn => ?_⟩
  obtain ⟨g, off, e, hg, hr⟩ := h.2.2.2.2 (by omega)
  refine ⟨g, off, e, hg, fun i b hb => ?_⟩
  obtain ⟨Ap, np, cp, Av, nv, cv, k1, k2, k3, k4⟩ := hc.at_ i b hb
  exact ⟨Ap, np, cp, Av, nv, cv, hr _ _ k1, hr _ _ k2, hr _ _ k3, k4⟩
/-- Two lists put together. -/
theorem BkI.of_own2 {w w' : World} {n n' base : Nat} {al bs : List BlkP} {ca cb : List Value} {e : TypeId} {v : Value} (ha : BkC w w.heap.size ca al) (hb : BkC w w.heap.size cb bs) (hB : Below w.heap.size w w') (h : w'.ownsRow base e 3 v (n + n') (ca ++ cb)) :
    ∃ A2 c2, v = .slice A2 (n + n') c2 ∧ BkI w' w'.heap.size A2 (n + n') c2 (al ++ bs) := by
  obtain ⟨A2, c2, e2, hs⟩ := SlV.of_own (by omega) h
  exact ⟨A2, c2, e2, BkI.of_cells hs ((ha.up hB).append (hb.up hB))⟩
end Go.Proofs.Ytnnknnaimabehaa
