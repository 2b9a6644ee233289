/- The poller's plain law on a silent bus: each turn fails behind its tries. -/
import Derived.Test.YtcipleanckeoaaaDoorPolStep
namespace Go.Proofs.YtcipleanckeoaaaDoor
def oneIf (b : Prop) [Decidable b] (v : Int) : Int := if b then v else 0
structure SilI (c : PCf) (N : Nat) (s : PSt) (trl : List Int) : Prop where
  len : trl.length = N
  pt : ∀ (n : Nat) (x : PPt) (v : Int), s.l[n]? = some x → trl[n]? = some v → v = oneIf (s.opn = n) s.tries ∧ x.turns = x.fails + oneIf (s.opn = n) 1
  off : ∀ (k : Nat) (x : PPt), s.opn = k → s.l[k]? = some x → c.fls ≤ x.fails → s.tries = 1
/-- What a step does. -/
def SilT (c : PCf) (N : Nat) (s : PSt) (trl : List Int) (s' : PSt) (sent : Bool) (failed : Int) : Prop :=
  (∃ (k : Nat) (x y : PPt), k < N ∧ s.opn = k ∧ failed = k ∧ sent = false ∧ s'.opn = -1 ∧ s.l[k]? = some x ∧ s'.l[k]? = some y ∧ trl[k]? = some (if c.fls ≤ x.fails then 1 else c.ret + 1) ∧ SilI c N s' (trl.set k 0)) ∨
  (∃ (k : Nat) (y : PPt) (v : Int), k < N ∧ failed = -1 ∧ sent = true ∧ s'.opn = k ∧ s'.l[k]? = some y ∧ trl[k]? = some v ∧ s'.tries = v + 1 ∧ y.turns = y.fails + 1 ∧ SilI c N s' (trl.set k (v + 1))) ∨
  (failed = -1 ∧ sent = false ∧ SilI c N s' trl)
theorem oneIf_yes {b : Prop} [Decidable b] (h : b) (v : Int) : oneIf b v = v := if_pos h
theorem oneIf_no {b : Prop} [Decidable b] (h : ¬ b) (v : Int) : oneIf b v = 0 := if_neg h
theorem SilI.step {c : PCf} {N : Nat} {s : PSt} {last trl : List Int} {M : Int} (hc : c.ok) (hN : 1 ≤ N) (h : PInv c N s last M) (hs : SilI c N s trl) :
    SilT c N s trl (stepP c s (nextP c s)).1 (stepP c s (nextP c s)).2.1 (stepP c s (nextP c s)).2.2 := by
  have hn := h.nw
  have ha := h.aw
  have hlen := h.ln
  have hlt := hs.len
  rcases h.op with ⟨ho, hw, hna⟩ | ⟨k, hO⟩
  · obtain ⟨i0, x0, hx0, hm0⟩ := minD_is s.l (by intro e; rw [e] at hlen; simp at hlen; omega)
    obtain ⟨t, ht⟩ : ∃ t, nextP c s = t := ⟨_, rfl⟩
    have htv : t = max s.at_ (minD s.l) := by
      rw [← ht]; unfold nextP; rw [if_neg (by rw [hw]; decide), if_pos (by omega)]; omega
    rw [ht]
    have hlate : lateP c s t = ({ s with now := t }, -1) := by unfold lateP; rw [if_neg (by rw [hw]; simp)]
    have hfst : ∃ (k : Nat) (x : PPt), k < s.l.length ∧ s.l[k]? = some x ∧ firstN t s.l s.l.length = ((k : Int), x.due) := by
      rcases first_is t s.l s.l.length (Nat.le_refl _) with ⟨_, h2⟩ | ⟨k, x, h1, h2, h3, _⟩
      · have := h2 i0 x0 (List.getElem?_eq_some_iff.1 hx0).1 hx0
        omega
      · exact ⟨k, x, h1, h2, h3⟩
    obtain ⟨k, x, k1, hx, k3⟩ := hfst
    have hbeg : beginP c { s with now := t } = (begunP c { s with now := t } k x, true) := by
      unfold beginP
      show (match s.l[(firstN t s.l s.l.length).1.toNat]? with | none => _ | some x => _) = _
      rw [k3]
      show (match s.l[(k : Int).toNat]? with | none => _ | some x => _) = _
      rw [Int.toNat_natCast, hx]
      exact if_neg (by show ¬ (k : Int) < 0; omega)
    have hgo : goP c { s with now := t } t = (sentP (begunP c { s with now := t } k x) t, true) := by
      unfold goP
      rw [if_neg (by show ¬ (s.waits = true ∨ t < s.at_); rw [hw]; simp; omega), if_pos (by show s.opn < 0; omega), hbeg]
      rfl
    have hstep : stepP c s t = (sentP (begunP c { s with now := t } k x) t, true, -1) := by
      unfold stepP; rw [hlate, hgo]
    rw [hstep]
    obtain ⟨y, hy⟩ : ∃ y : PPt, y = { x with due := t + c.per * 2 ^ (slowN c x).toNat, turns := x.turns + 1 } := ⟨_, rfl⟩
    have hS : sentP (begunP c { s with now := t } k x) t = { s with l := s.l.set k y, now := t, opn := k, began := t, tries := 0 + 1, waits := true, at_ := t } := by
      rw [hy]; unfold sentP begunP; simp
    rw [hS]
    have hset : (s.l.set k y)[k]? = some y := by rw [List.getElem?_set_self (by omega)]
    have hoth : ∀ m, m ≠ k → (s.l.set k y)[m]? = s.l[m]? := fun m hm => List.getElem?_set_ne (fun e => hm e.symm)
    obtain ⟨v, hv⟩ : ∃ v, trl[k]? = some v := ⟨_, List.getElem?_eq_getElem (by omega)⟩
    obtain ⟨p1, p2⟩ := hs.pt k x v hx hv
    rw [oneIf_no (by omega)] at p1 p2
    subst p1
    have htset : (trl.set k (0 + 1))[k]? = some (0 + 1) := by rw [List.getElem?_set_self (by omega)]
    have hyt : y.turns = y.fails + 1 := by rw [hy]; show x.turns + 1 = x.fails + 1; omega
    refine .inr (.inl ⟨k, y, 0, by omega, rfl, rfl, rfl, hset, hv, rfl, hyt, by simp [hlt], ?_, fun k' x' _ _ _ => rfl⟩)
    intro n z u hz hu
    have hz : (s.l.set k y)[n]? = some z := hz
    show u = oneIf ((k : Int) = n) (0 + 1) ∧ z.turns = z.fails + oneIf ((k : Int) = n) 1
    by_cases hi : n = k
    · subst hi
      rw [hset] at hz; cases hz
      rw [htset] at hu; cases hu
      rw [oneIf_yes rfl, oneIf_yes rfl]
      exact ⟨rfl, hyt⟩
    · rw [hoth n hi] at hz
      rw [List.getElem?_set_ne (fun e => hi e.symm)] at hu
      have := hs.pt n z u hz hu
      rw [oneIf_no (by omega), oneIf_no (by omega)] at this
      rw [oneIf_no (by omega), oneIf_no (by omega)]
      exact this
  · obtain ⟨h1, h2, h3, ⟨x, hx, hxd, hxf⟩, h5, h6, h7⟩ := hO
    have hkt : s.opn.toNat = k := by omega
    obtain ⟨v, hv⟩ : ∃ v, trl[k]? = some v := ⟨_, List.getElem?_eq_getElem (by omega)⟩
    obtain ⟨p1, p2⟩ := hs.pt k x v hx hv
    rw [oneIf_yes h1] at p1 p2
    subst p1
    rcases h7 with ⟨hw, ⟨w1, w2⟩, w3⟩ | ⟨hw, w1, w2, w3⟩
    · have ht : nextP c s = s.at_ + c.tmo := by unfold nextP; rw [if_pos hw]; omega
      rw [ht]
      obtain ⟨t, htv⟩ : ∃ t, s.at_ + c.tmo = t := ⟨_, rfl⟩
      rw [htv]
      have hlate : lateP c s t = failP c { s with now := t } := by unfold lateP; rw [if_pos ⟨hw, by omega⟩]
      have hfv : failP c { s with now := t } = if offB c x = false ∧ s.tries ≤ c.ret then (quietP c { s with now := t }, -1) else ({ quietP c { s with now := t } with l := s.l.set k { x with fails := x.fails + 1 }, opn := -1 }, (k : Int)) := by
        unfold failP
        rw [show ({ s with now := t } : PSt).l[({ s with now := t } : PSt).opn.toNat]? = some x by show s.l[s.opn.toNat]? = _; rw [hkt, hx]]
        dsimp only
        rw [hkt, h1]
      have hgo : goP c (failP c { s with now := t }).1 t = ((failP c { s with now := t }).1, false) := by
        unfold goP
        rw [if_pos (.inr (by
          have : (failP c { s with now := t }).1.at_ = t + c.sil := by rw [hfv]; split <;> rfl
          rw [this]; have := hc.2.1; omega))]
      have hstep : stepP c s t = ((failP c { s with now := t }).1, false, (failP c { s with now := t }).2) := by
        unfold stepP; rw [hlate, hgo]
      rw [hstep, hfv]
      by_cases hif : offB c x = false ∧ s.tries ≤ c.ret
      · rw [if_pos hif]
        exact .inr (.inr ⟨rfl, rfl, hs.len, hs.pt, hs.off⟩)
      · rw [if_neg hif]
        obtain ⟨y, hy⟩ : ∃ y : PPt, y = { x with fails := x.fails + 1 } := ⟨_, rfl⟩
        rw [← hy]
        have hset : (s.l.set k y)[k]? = some y := by rw [List.getElem?_set_self (by omega)]
        have hoth : ∀ m, m ≠ k → (s.l.set k y)[m]? = s.l[m]? := fun m hm => List.getElem?_set_ne (fun e => hm e.symm)
        have htset : (trl.set k 0)[k]? = some 0 := by rw [List.getElem?_set_self (by omega)]
        refine .inl ⟨k, x, y, h2, h1, rfl, rfl, rfl, hx, hset, ?_, by simp [hlt], ?_, fun k' x' hk' => ?_⟩
        · rw [hv]
          by_cases hof : c.fls ≤ x.fails
          · rw [if_pos hof, hs.off k x h1 hx hof]
          · rw [if_neg hof]
            have : ¬ s.tries ≤ c.ret := fun hh => hif ⟨by unfold offB; exact decide_eq_false hof, hh⟩
            have he : s.tries = c.ret + 1 := by omega
            rw [he]
        · intro n z u hz hu
          have hz : (s.l.set k y)[n]? = some z := hz
          show u = oneIf ((-1 : Int) = n) _ ∧ z.turns = z.fails + oneIf ((-1 : Int) = n) 1
          rw [oneIf_no (by omega), oneIf_no (by omega)]
          by_cases hi : n = k
          · subst hi
            rw [hset] at hz; cases hz
            rw [htset] at hu; cases hu
            refine ⟨rfl, ?_⟩
            rw [hy]
            show x.turns = x.fails + 1 + 0
            omega
          · rw [hoth n hi] at hz
            rw [List.getElem?_set_ne (fun e => hi e.symm)] at hu
            have := hs.pt n z u hz hu
            rw [oneIf_no (by omega), oneIf_no (by omega)] at this
            exact this
        · have : (-1 : Int) = (k' : Int) := hk'
          omega
    · have ht : nextP c s = s.at_ := by unfold nextP; rw [if_neg (by rw [hw]; decide), if_neg (by omega)]; omega
      rw [ht]
      have hlate : lateP c s s.at_ = ({ s with now := s.at_ }, -1) := by unfold lateP; rw [if_neg (by rw [hw]; simp)]
      have hgo : goP c { s with now := s.at_ } s.at_ = (sentP { s with now := s.at_ } s.at_, true) := by
        unfold goP
        rw [if_neg (by show ¬ (s.waits = true ∨ s.at_ < s.at_); rw [hw]; simp), if_neg (by show ¬ s.opn < 0; omega)]
      have hstep : stepP c s s.at_ = (sentP { s with now := s.at_ } s.at_, true, -1) := by
        unfold stepP; rw [hlate, hgo]
      rw [hstep]
      have htset : (trl.set k (s.tries + 1))[k]? = some (s.tries + 1) := by rw [List.getElem?_set_self (by omega)]
      refine .inr (.inl ⟨k, x, s.tries, h2, rfl, rfl, h1, hx, hv, rfl, p2, by simp [hlt], ?_, fun k' x' hk' hx' hof => ?_⟩)
      · intro n z u hz hu
        have hz : s.l[n]? = some z := hz
        show u = oneIf (s.opn = n) (s.tries + 1) ∧ z.turns = z.fails + oneIf (s.opn = n) 1
        by_cases hi : n = k
        · subst hi
          rw [hx] at hz; cases hz
          rw [htset] at hu; cases hu
          rw [oneIf_yes h1, oneIf_yes h1]
          exact ⟨rfl, p2⟩
        · rw [List.getElem?_set_ne (fun e => hi e.symm)] at hu
          have := hs.pt n z u hz hu
          rw [oneIf_no (by omega), oneIf_no (by omega)] at this
          rw [oneIf_no (by omega), oneIf_no (by omega)]
          exact this
      · have hx' : s.l[k']? = some x' := hx'
        have hk' : s.opn = k' := hk'
        obtain rfl : k' = k := by omega
        rw [hx] at hx'; cases hx'
        have := hxf hw
        omega
theorem SilI.start (c : PCf) (l : List PPt) (h : ∀ (i : Nat) (x : PPt), l[i]? = some x → x.due = 0 ∧ x.fails = 0 ∧ x.turns = 0) : SilI c l.length { l := l, now := 0, opn := -1, began := 0, tries := 0, waits := false, at_ := 0 } (List.replicate l.length 0) := by
  refine ⟨by simp, fun n x v hx hv => ?_, fun k x hk => ?_⟩
  · have h1 := h n x hx
    rw [List.getElem?_replicate] at hv
    split at hv
    · cases hv
      show (0 : Int) = oneIf ((-1 : Int) = n) _ ∧ x.turns = x.fails + oneIf ((-1 : Int) = n) 1
      rw [oneIf_no (by omega), oneIf_no (by omega)]
      exact ⟨rfl, by omega⟩
    · cases hv
  · have : (-1 : Int) = (k : Int) := hk
    omega
end Go.Proofs.YtcipleanckeoaaaDoor
