/- The poller's plain law: what a step at Next's tick is, by cases; what stays small. -/
import Derived.Test.YtcipleanckeoaaaDoorPolSilent
import Derived.Test.YtcipleanckeoaaaDoorPolD
namespace Go.Proofs.YtcipleanckeoaaaDoor
/-- Each point may be, and had few turns. -/
def PtsB (s : PSt) (m : Int) : Prop := ∀ (k : Nat) (x : PPt), s.l[k]? = some x → x.ok ∧ (0 ≤ x.fails ∧ x.fails ≤ m) ∧ (0 ≤ x.turns ∧ x.turns ≤ m)
theorem PtsB.grow {s : PSt} {m m' : Int} (h : PtsB s m) (hm : m ≤ m') : PtsB s m' := fun k x hx => by
  obtain ⟨h1, h2, h3⟩ := h k x hx
  exact ⟨h1, by omega, by omega⟩
theorem PtsB.set {s : PSt} {m : Int} (h : PtsB s m) (k : Nat) (y : PPt) (hy : s.l[k]? ≠ none → y.ok ∧ (0 ≤ y.fails ∧ y.fails ≤ m + 1) ∧ (0 ≤ y.turns ∧ y.turns ≤ m + 1)) (s' : PSt) (hs : s'.l = s.l.set k y) : PtsB s' (m + 1) := fun i x hx => by
  rw [hs] at hx
  by_cases hi : i = k
  · subst hi
    by_cases hl : i < s.l.length
    · rw [List.getElem?_set_self hl] at hx
      cases hx
      exact hy (by rw [List.getElem?_eq_getElem hl]; simp)
    · rw [List.getElem?_eq_none (by simp; omega)] at hx
      cases hx
  · rw [List.getElem?_set_ne (fun e => hi e.symm)] at hx
    obtain ⟨h1, h2, h3⟩ := h i x hx
    exact ⟨h1, by omega, by omega⟩
theorem PtsB.of_l {s s' : PSt} {m : Int} (h : PtsB s m) (hs : s'.l = s.l) : PtsB s' m := fun k x hx => h k x (by rw [← hs]; exact hx)
theorem PtsB.fail {s : PSt} {m : Int} (c : PCf) (h : PtsB s m) : PtsB (failP c s).1 (m + 1) := by
  unfold failP
  split
  · exact h.grow (by omega)
  · rename_i x hx
    obtain ⟨h1, h2, h3⟩ := h _ x hx
    split
    · exact (h.grow (by omega)).of_l rfl
    · exact h.set s.opn.toNat { x with fails := x.fails + 1 } (fun _ => ⟨h1, by show 0 ≤ x.fails + 1 ∧ x.fails + 1 ≤ _; omega, by show 0 ≤ x.turns ∧ x.turns ≤ _; omega⟩) _ rfl
theorem PtsB.heard {s : PSt} {m : Int} (c : PCf) (h : PtsB s m) : PtsB (heardP c s) (m + 1) := by
  unfold heardP
  split
  · exact h.grow (by omega)
  · rename_i x hx
    obtain ⟨h1, h2, h3⟩ := h _ x hx
    exact h.set s.opn.toNat { x with fails := 0, due := s.began + c.per } (fun _ => ⟨h1, by show (0 : Int) ≤ 0 ∧ (0 : Int) ≤ _; omega, by show 0 ≤ x.turns ∧ x.turns ≤ _; omega⟩) _ rfl
theorem PtsB.hear {s s' : PSt} {m : Int} (c : PCf) (h : PtsB s m) (hr : HearR c s s') : PtsB s' (m + 1) := by
  rcases hr with rfl | ⟨_, _, rfl | rfl⟩
  · exact h.grow (by omega)
  · exact h.fail c
  · exact h.heard c
theorem PtsB.begin {s : PSt} {m : Int} (c : PCf) (h : PtsB s m) : PtsB (beginP c s).1 (m + 1) := by
  unfold beginP
  split
  · exact h.grow (by omega)
  · rename_i x hx
    split
    · exact h.grow (by omega)
    · obtain ⟨h1, h2, h3⟩ := h _ x hx
      exact h.set _ { x with due := s.now + c.per * 2 ^ (slowN c x).toNat, turns := x.turns + 1 } (fun _ => ⟨h1, by show 0 ≤ x.fails ∧ x.fails ≤ _; omega, by show 0 ≤ x.turns + 1 ∧ x.turns + 1 ≤ _; omega⟩) _ rfl
theorem PtsB.step {s : PSt} {m : Int} (c : PCf) (t : Int) (h : PtsB s m) : PtsB (stepP c s t).1 (m + 2) := by
  have hL : PtsB (lateP c s t).1 (m + 1) := by
    unfold lateP
    split
    · exact PtsB.fail (s := { s with now := t }) c (h.of_l rfl)
    · exact (h.grow (by omega)).of_l rfl
  show PtsB (goP c (lateP c s t).1 t).1 (m + 2)
  generalize (lateP c s t).1 = s1 at hL
  unfold goP
  split
  · exact hL.grow (by omega)
  · split
    · split
      · have := (hL.begin c).of_l (s' := sentP (beginP c s1).1 t) rfl
        exact this.grow (by omega)
      · exact hL.grow (by omega)
    · exact (hL.grow (by omega)).of_l rfl
theorem len_fail (c : PCf) (s : PSt) : (failP c s).1.l.length = s.l.length := by
  unfold failP
  split
  · rfl
  · split
    · rfl
    · simp
/-- A step at the tick that Next tells, by cases. -/
def StepK (c : PCf) (s : PSt) (t : Int) : Prop :=
  (∃ (k : Nat) (x : PPt), s.waits = false ∧ s.at_ ≤ t ∧ s.opn = -1 ∧ s.l[k]? = some x ∧ beginP c { s with now := t } = (begunP c { s with now := t } k x, true) ∧ stepP c s t = (sentP (begunP c { s with now := t } k x) t, true, -1)) ∨
  (∃ (k : Nat) (x : PPt), s.waits = true ∧ s.at_ + c.tmo ≤ t ∧ s.opn = k ∧ s.l[k]? = some x ∧ stepP c s t = ((failP c { s with now := t }).1, false, (failP c { s with now := t }).2)) ∨
  (∃ (k : Nat) (x : PPt), s.waits = false ∧ s.at_ ≤ t ∧ s.opn = k ∧ s.l[k]? = some x ∧ (0 ≤ s.tries ∧ s.tries ≤ 11) ∧ stepP c s t = (sentP { s with now := t } t, true, -1))
theorem PInv.stepk {c : PCf} {N : Nat} {s : PSt} {last : List Int} {M : Int} (hc : c.ok) (hN : 1 ≤ N) (h : PInv c N s last M) : StepK c s (nextP c s) := by
  have hn := h.nw
  have ha := h.aw
  have hlen := h.ln
  rcases h.op with ⟨ho, hw, hna⟩ | ⟨k, hO⟩
  · obtain ⟨i0, x0, hx0, hm0⟩ := minD_is s.l (by intro e; rw [e] at hlen; simp at hlen; omega)
    obtain ⟨t, ht⟩ : ∃ t, nextP c s = t := ⟨_, rfl⟩
    have htv : t = max s.at_ (minD s.l) := by
      rw [← ht]; unfold nextP; rw [if_neg (by rw [hw]; decide), if_pos (by omega)]; omega
    rw [ht]
    have hlate : lateP c s t = ({ s with now := t }, -1) := by unfold lateP; rw [if_neg (by rw [hw]; simp)]
    have hfst : ∃ (k : Nat) (x : PPt), k < s.l.length ∧ s.l[k]? = some x ∧ firstN t s.l s.l.length = ((k : Int), x.due) := by
      rcases first_is t s.l s.l.length (Nat.le_refl _) with ⟨_, h2⟩ | ⟨k, x, h1, h2, h3, _⟩
      · have := h2 i0 x0 (List.getElem?_eq_some_iff.1 hx0).1 hx0
        omega
      · exact ⟨k, x, h1, h2, h3⟩
    obtain ⟨k, x, k1, hx, k3⟩ := hfst
    have hbeg : beginP c { s with now := t } = (begunP c { s with now := t } k x, true) := by
      unfold beginP
      show (match s.l[(firstN t s.l s.l.length).1.toNat]? with | none => _ | some x => _) = _
      rw [k3]
      show (match s.l[(k : Int).toNat]? with | none => _ | some x => _) = _
      rw [Int.toNat_natCast, hx]
      exact if_neg (by show ¬ (k : Int) < 0; omega)
    have hgo : goP c { s with now := t } t = (sentP (begunP c { s with now := t } k x) t, true) := by
      unfold goP
      rw [if_neg (by show ¬ (s.waits = true ∨ t < s.at_); rw [hw]; simp; omega), if_pos (by show s.opn < 0; omega), hbeg]
      rfl
    exact .inl ⟨k, x, hw, by omega, ho, hx, hbeg, by unfold stepP; rw [hlate, hgo]⟩
  · obtain ⟨h1, h2, h3, ⟨x, hx, hxd, hxf⟩, h5, h6, h7⟩ := hO
    have hkt : s.opn.toNat = k := by omega
    rcases h7 with ⟨hw, ⟨w1, w2⟩, w3⟩ | ⟨hw, w1, w2, w3⟩
    · have ht : nextP c s = s.at_ + c.tmo := by unfold nextP; rw [if_pos hw]; omega
      rw [ht]
      obtain ⟨t, htv⟩ : ∃ t, s.at_ + c.tmo = t := ⟨_, rfl⟩
      rw [htv]
      have hlate : lateP c s t = failP c { s with now := t } := by unfold lateP; rw [if_pos ⟨hw, by omega⟩]
      have hat : (failP c { s with now := t }).1.at_ = t + c.sil := by
        unfold failP
        rw [show ({ s with now := t } : PSt).l[({ s with now := t } : PSt).opn.toNat]? = some x by show s.l[s.opn.toNat]? = _; rw [hkt, hx]]
        dsimp only
        split <;> rfl
      have hgo : goP c (failP c { s with now := t }).1 t = ((failP c { s with now := t }).1, false) := by
        unfold goP
        rw [if_pos (.inr (by rw [hat]; have := hc.2.1; omega))]
      exact .inr (.inl ⟨k, x, hw, by omega, h1, hx, by unfold stepP; rw [hlate, hgo]⟩)
    · have ht : nextP c s = s.at_ := by unfold nextP; rw [if_neg (by rw [hw]; decide), if_neg (by omega)]; omega
      rw [ht]
      have hlate : lateP c s s.at_ = ({ s with now := s.at_ }, -1) := by unfold lateP; rw [if_neg (by rw [hw]; simp)]
      have hgo : goP c { s with now := s.at_ } s.at_ = (sentP { s with now := s.at_ } s.at_, true) := by
        unfold goP
        rw [if_neg (by show ¬ (s.waits = true ∨ s.at_ < s.at_); rw [hw]; simp), if_neg (by show ¬ s.opn < 0; omega)]
      exact .inr (.inr ⟨k, x, hw, Int.le_refl _, h1, hx, by have := hc.2.2.1; omega, by unfold stepP; rw [hlate, hgo]⟩)
/-- Whose turn is open, and its tries. -/
def triV (s : PSt) : Int := if s.opn < 0 then 0 else s.tries
end Go.Proofs.YtcipleanckeoaaaDoor
