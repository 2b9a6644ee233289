/- The poller's plain law: a step at the tick that Next tells. -/
import Derived.Test.YtcipleanckeoaaaDoorPolLaw
namespace Go.Proofs.YtcipleanckeoaaaDoor
theorem PInv.grow {c : PCf} {N : Nat} {s : PSt} {last : List Int} {M M' : Int} (h : PInv c N s last M) (hM : M ≤ M') : PInv c N s last M' :=
  ⟨h.ln, h.la, by have := h.nw; omega, by have := h.aw; omega, fun i z hz => by have := h.du i z hz; omega, fun i t ht => by have := h.lt i t ht; omega, h.op, h.fair⟩
/-- What a step at Next's tick does to the turns. -/
def StepT (c : PCf) (N : Nat) (s : PSt) (last : List Int) (s' : PSt) (sent : Bool) (failed : Int) (last' : List Int) : Prop :=
  (∃ (k : Nat) (x y : PPt) (t : Int), k < N ∧ s'.opn = k ∧ s'.tries = 1 ∧ s'.began = s'.now ∧ s.l[k]? = some x ∧ s'.l = s.l.set k y ∧ y.turns = x.turns + 1 ∧ y.fails = x.fails ∧ last[k]? = some t ∧ (x.fails < c.fls → s'.now - t ≤ c.per + c.turn * N) ∧ sent = true ∧ failed = -1 ∧ last' = last.set k s'.now) ∨
  ((∀ i : Nat, (s'.l[i]?).map PPt.turns = (s.l[i]?).map PPt.turns) ∧ (0 ≤ s'.opn → s'.opn = s.opn ∧ s'.began = s.began) ∧ last' = last)
theorem pow_slow (c : PCf) (x : PPt) : 1 ≤ (2 : Int) ^ (slowN c x).toNat ∧ (2 : Int) ^ (slowN c x).toNat ≤ 32 ∧ (x.fails < c.fls → (2 : Int) ^ (slowN c x).toNat = 1) := by
  have h : (slowN c x).toNat = 0 ∨ (slowN c x).toNat = 1 ∨ (slowN c x).toNat = 2 ∨ (slowN c x).toNat = 3 ∨ (slowN c x).toNat = 4 ∨ (slowN c x).toNat = 5 := by unfold slowN; omega
  refine ⟨?_, ?_, fun hf => ?_⟩
  · rcases h with h | h | h | h | h | h <;> rw [h] <;> decide
  · rcases h with h | h | h | h | h | h <;> rw [h] <;> decide
  · have : (slowN c x).toNat = 0 := by unfold slowN; omega
    rw [this]; decide
theorem slow_due (c : PCf) (hc : c.ok) (x : PPt) : c.per ≤ c.per * 2 ^ (slowN c x).toNat ∧ c.per * 2 ^ (slowN c x).toNat ≤ 137438953472 ∧ (x.fails < c.fls → c.per * 2 ^ (slowN c x).toNat = c.per) := by
  obtain ⟨h1, h2, h3⟩ := pow_slow c x
  have hp := hc.2.2.2.1
  have a := Int.mul_le_mul_of_nonneg_left h1 (show 0 ≤ c.per by omega)
  have b := Int.mul_le_mul_of_nonneg_left h2 (show 0 ≤ c.per by omega)
  refine ⟨by omega, by omega, fun hf => by rw [h3 hf]; omega⟩
/-- A turn begins. -/
theorem PInv.begin {c : PCf} {N : Nat} {s : PSt} {last : List Int} {M : Int} (hc : c.ok) (h : PInv c N s last M) (ho : s.opn = -1) (t : Int) (ht1 : s.now ≤ t) (ht2 : t ≤ M) (hat : s.at_ ≤ t) (k : Nat) (x : PPt) (hx : s.l[k]? = some x) (hfirst : ∀ (i : Nat) (y : PPt), s.l[i]? = some y → x.due ≤ y.due) (hxt : t = max s.at_ x.due) (M' : Int) (hM : M + 137438953472 ≤ M') :
    PInv c N (sentP (begunP c { s with now := t } k x) t) (last.set k t) M' ∧ ∃ tl, last[k]? = some tl ∧ (x.fails < c.fls → t - tl ≤ c.per + c.turn * N) := by
  have hlen := h.ln
  have hla := h.la
  have hk : k < N := by have := (List.getElem?_eq_some_iff.1 hx).1; omega
  obtain ⟨s1, s2, s3⟩ := slow_due c hc x
  have hp := hc.2.2.2.1
  have hn := h.nw
  obtain ⟨tl, htl⟩ : ∃ tl, last[k]? = some tl := ⟨_, List.getElem?_eq_getElem (by omega)⟩
  have htp := turn_pos c hc
  have hgs : s.g = s.at_ := by unfold PSt.g; rw [if_pos (by omega)]
  have hbs : s.b c = s.at_ := by unfold PSt.b; rw [if_pos (by omega)]
  obtain ⟨y, hy⟩ : ∃ y : PPt, y = { x with due := t + c.per * 2 ^ (slowN c x).toNat, turns := x.turns + 1 } := ⟨_, rfl⟩
  have hS : sentP (begunP c { s with now := t } k x) t = { s with l := s.l.set k y, now := t, opn := k, began := t, tries := 0 + 1, waits := true, at_ := t } := by
    rw [hy]; unfold sentP begunP; simp
  have hset : (s.l.set k y)[k]? = some y := by rw [List.getElem?_set_self (by omega)]
  have hoth : ∀ m, m ≠ k → (s.l.set k y)[m]? = s.l[m]? := fun m hm => List.getElem?_set_ne (fun e => hm e.symm)
  have hlset : (last.set k t)[k]? = some t := by rw [List.getElem?_set_self (by omega)]
  have hloth : ∀ m, m ≠ k → (last.set k t)[m]? = last[m]? := fun m hm => List.getElem?_set_ne (fun e => hm e.symm)
  have hyd : y.due = t + c.per * 2 ^ (slowN c x).toNat := by rw [hy]
  have hyf : y.fails = x.fails := by rw [hy]
  have hyt : y.turns = x.turns + 1 := by rw [hy]
  have hxd := h.du k x hx
  constructor
  · rw [hS]
    refine ⟨by simp [hlen], by simp [hla], ⟨by show 0 ≤ t; omega, by show t ≤ M'; omega⟩, ⟨by show 0 ≤ t; omega, by show t ≤ M'; omega⟩, ?_, ?_, .inr ⟨k, rfl, hk, hlset, ⟨y, hset, by show t + c.per ≤ _; omega, fun e => by cases e⟩, ⟨by show 0 ≤ t; omega, by show t ≤ t; omega⟩, ⟨by show (1 : Int) ≤ 0 + 1; omega, by show (0 : Int) + 1 ≤ _; have := hc.2.2.1; omega⟩, .inl ⟨rfl, ⟨by show t ≤ t; omega, by show t ≤ t + _; have := hc.1; omega⟩, by show t ≤ t + (0 + 1 - 1) * c.p; omega⟩⟩, ?_⟩
    · intro i z hz
      have hz : (s.l.set k y)[i]? = some z := hz
      by_cases hi : i = k
      · subst hi
        rw [hset] at hz; cases hz
        omega
      · rw [hoth i hi] at hz
        have := h.du i z hz
        omega
    · intro i z hz
      by_cases hi : i = k
      · subst hi
        rw [hlset] at hz; cases hz
        omega
      · rw [hloth i hi] at hz
        have := h.lt i z hz
        omega
    · intro n z u hz hu hf
      have hz : (s.l.set k y)[n]? = some z := hz
      have hg : ({ s with l := s.l.set k y, now := t, opn := (k : Int), began := t, tries := 0 + 1, waits := true, at_ := t } : PSt).g = t := by unfold PSt.g; exact if_neg (by show ¬ (k : Int) < 0; omega)
      have hb : ({ s with l := s.l.set k y, now := t, opn := (k : Int), began := t, tries := 0 + 1, waits := true, at_ := t } : PSt).b c = t + c.turn := by unfold PSt.b; exact if_neg (by show ¬ (k : Int) < 0; omega)
      rw [hg, hb]
      by_cases hi : n = k
      · subst hi
        rw [hset] at hz; cases hz
        rw [hlset] at hu; cases hu
        refine ⟨by have := s3 (by omega); omega, fun hno => absurd rfl hno⟩
      · rw [hoth n hi] at hz
        rw [hloth n hi] at hu
        obtain ⟨f1, f2⟩ := h.fair n z u hz hu hf
        obtain ⟨f2, f3⟩ := f2 (by omega)
        rw [hgs] at f2
        rw [hbs] at f3
        refine ⟨f1, fun _ => ⟨by omega, ?_⟩⟩
        show t + c.turn + c.turn * ((cnt (othB (s.l.set k y) n k z.due) N : Nat) : Int) ≤ _
        have hle : ∀ m, m < N → othB (s.l.set k y) n k z.due m = true → othB s.l n s.opn z.due m = true := fun m hm hP => by
          obtain ⟨p1, p2, v, p3, p4⟩ := othB_le hP
          rw [hoth m (by omega)] at p3
          exact othB_of p1 (by omega) p3 p4
        have hkn : othB (s.l.set k y) n k z.due k = false := othB_no (fun h => h.2.1 rfl)
        by_cases htz : t ≤ z.due
        · have hcn := cnt_out (othB (s.l.set k y) n k z.due) N k hk hkn
          have hm := mul_mono c hc _ _ hcn
          rw [mul_more] at hm
          omega
        · have hxz := hfirst n z hz
          have hcn := cnt_lt _ _ N k hle hk hkn (othB_of (by omega) (by omega) hx hxz)
          have hm := mul_mono c hc _ _ hcn
          rw [mul_more] at hm
          unfold ahead at f3
          omega
  · refine ⟨tl, htl, fun hf => ?_⟩
    obtain ⟨f1, f2⟩ := h.fair k x tl hx htl hf
    obtain ⟨f2, f3⟩ := f2 (by omega)
    rw [hbs] at f3
    have h3 : 0 ≤ c.turn * (ahead s k x.due N : Int) := Int.mul_nonneg (by omega) (by omega)
    have h4 : 0 ≤ c.turn * (N : Int) := Int.mul_nonneg (by omega) (by omega)
    omega
/-- A step at the tick that Next tells. -/
theorem PInv.step {c : PCf} {N : Nat} {s : PSt} {last : List Int} {M : Int} (hc : c.ok) (hN : 1 ≤ N) (h : PInv c N s last M) (M' : Int) (hM : M + 148000000000 ≤ M') :
    (s.now ≤ nextP c s ∧ nextP c s ≤ M + 4294967296) ∧ (stepP c s (nextP c s)).1.now = nextP c s ∧ ∃ last', StepT c N s last (stepP c s (nextP c s)).1 (stepP c s (nextP c s)).2.1 (stepP c s (nextP c s)).2.2 last' ∧ PInv c N (stepP c s (nextP c s)).1 last' M' := by
  have hn := h.nw
  have ha := h.aw
  obtain ⟨c1, c2, c3, c4, c5⟩ := hc
  have hc : c.ok := ⟨c1, c2, c3, c4, c5⟩
  have hlen := h.ln
  have hla := h.la
  rcases h.op with ⟨ho, hw, hna⟩ | ⟨k, hO⟩
  · obtain ⟨i0, x0, hx0, hm0⟩ := minD_is s.l (by intro e; rw [e] at hlen; simp at hlen; omega)
    have hd0 := h.du i0 x0 hx0
    obtain ⟨t, ht⟩ : ∃ t, nextP c s = t := ⟨_, rfl⟩
    have htv : t = max s.at_ (minD s.l) := by
      rw [← ht]; unfold nextP; rw [if_neg (by rw [hw]; decide), if_pos (by omega)]; omega
    rw [ht]
    have hlate : lateP c s t = ({ s with now := t }, -1) := by unfold lateP; rw [if_neg (by rw [hw]; simp)]
    have hfst : ∃ (k : Nat) (x : PPt), k < s.l.length ∧ s.l[k]? = some x ∧ firstN t s.l s.l.length = ((k : Int), x.due) ∧ x.due ≤ t ∧ ∀ (i : Nat) (y : PPt), i < s.l.length → s.l[i]? = some y → x.due ≤ y.due := by
      rcases first_is t s.l s.l.length (Nat.le_refl _) with ⟨_, h2⟩ | h2
      · have := h2 i0 x0 (List.getElem?_eq_some_iff.1 hx0).1 hx0
        omega
      · exact h2
    obtain ⟨k, x, k1, hx, k3, k4, k5⟩ := hfst
    have hmx : minD s.l = x.due := by
      have a := minD_le s.l k x hx
      have b := k5 i0 x0 (List.getElem?_eq_some_iff.1 hx0).1 hx0
      omega
    have hbeg : beginP c { s with now := t } = (begunP c { s with now := t } k x, true) := by
      unfold beginP
      show (match s.l[(firstN t s.l s.l.length).1.toNat]? with | none => _ | some x => _) = _
      rw [k3]
      show (match s.l[(k : Int).toNat]? with | none => _ | some x => _) = _
      rw [Int.toNat_natCast, hx]
      exact if_neg (by show ¬ (k : Int) < 0; omega)
    have hgo : goP c { s with now := t } t = (sentP (begunP c { s with now := t } k x) t, true) := by
      unfold goP
      rw [if_neg (by show ¬ (s.waits = true ∨ t < s.at_); rw [hw]; simp; omega), if_pos (by show s.opn < 0; omega), hbeg]
      rfl
    have hstep : stepP c s t = (sentP (begunP c { s with now := t } k x) t, true, -1) := by
      unfold stepP; rw [hlate, hgo]
    obtain ⟨g1, tl, g2, g3⟩ := (h.grow (show M ≤ M + 4294967296 by omega)).begin hc ho t (by omega) (by omega) (by omega) k x hx (fun i y hy => k5 i y (List.getElem?_eq_some_iff.1 hy).1 hy) (by omega) M' (by omega)
    rw [hstep]
    refine ⟨⟨by omega, by omega⟩, rfl, last.set k t, .inl ⟨k, x, { x with due := t + c.per * 2 ^ (slowN c x).toNat, turns := x.turns + 1 }, tl, by omega, rfl, rfl, rfl, hx, by show s.l.set (k : Int).toNat _ = _; rw [Int.toNat_natCast], rfl, rfl, g2, g3, rfl, rfl, rfl⟩, g1⟩
  · have hO2 := hO
    obtain ⟨h1, h2, h3, ⟨x, hx, hxd, hxf⟩, h5, h6, h7⟩ := hO
    rcases h7 with ⟨hw, ⟨w1, w2⟩, w3⟩ | ⟨hw, w1, w2, w3⟩
    · have ht : nextP c s = s.at_ + c.tmo := by unfold nextP; rw [if_pos hw]; omega
      rw [ht]
      obtain ⟨t, htv⟩ : ∃ t, s.at_ + c.tmo = t := ⟨_, rfl⟩
      rw [htv]
      have hO' : OpenI c N { s with now := t } last k := ⟨h1, h2, h3, ⟨x, hx, hxd, hxf⟩, ⟨h5.1, by show s.began ≤ t; omega⟩, h6, .inl ⟨hw, ⟨by show s.at_ ≤ t; omega, by show t ≤ s.at_ + c.tmo; omega⟩, w3⟩⟩
      have hI : PInv c N { s with now := t } last (M + 4294967296) := ⟨h.ln, h.la, ⟨by show 0 ≤ t; omega, by show t ≤ _; omega⟩, ⟨ha.1, by show s.at_ ≤ _; omega⟩, fun i z hz => by have := h.du i z hz; omega, fun i z hz => by have := h.lt i z hz; omega, .inr ⟨k, hO'⟩, h.fair⟩
      have hF := hI.fail hc k hO' hw M' (by omega)
      have hlate : lateP c s t = failP c { s with now := t } := by unfold lateP; rw [if_pos ⟨hw, by omega⟩]
      have hkt : s.opn.toNat = k := by omega
      have hw' : (failP c { s with now := t }).1.now = t ∧ (failP c { s with now := t }).1.waits = false ∧ (failP c { s with now := t }).1.at_ = t + c.sil ∧ (∀ i : Nat, ((failP c { s with now := t }).1.l[i]?).map PPt.turns = (s.l[i]?).map PPt.turns) ∧ (0 ≤ (failP c { s with now := t }).1.opn → (failP c { s with now := t }).1.opn = s.opn ∧ (failP c { s with now := t }).1.began = s.began) := by
        unfold failP
        show _ ∧ _
        rw [show ({ s with now := t } : PSt).l[({ s with now := t } : PSt).opn.toNat]? = some x by show s.l[s.opn.toNat]? = _; rw [hkt, hx]]
        dsimp only
        split
        · exact ⟨rfl, rfl, rfl, fun i => rfl, fun _ => ⟨rfl, rfl⟩⟩
        · refine ⟨rfl, rfl, rfl, fun i => ?_, fun hh => absurd (show (0 : Int) ≤ -1 from hh) (by decide)⟩
          show ((s.l.set s.opn.toNat _)[i]?).map PPt.turns = _
          rw [hkt]
          by_cases hi : i = k
          · subst hi; rw [List.getElem?_set_self (by omega), hx]; rfl
          · rw [List.getElem?_set_ne (fun e => hi e.symm)]
      obtain ⟨e1, e2, e3, e4, e5⟩ := hw'
      have hgo : goP c (failP c { s with now := t }).1 t = ((failP c { s with now := t }).1, false) := by
        unfold goP
        rw [if_pos (.inr (by rw [e3]; omega))]
      have hstep : stepP c s t = ((failP c { s with now := t }).1, false, (failP c { s with now := t }).2) := by
        unfold stepP; rw [hlate, hgo]
      rw [hstep]
      exact ⟨⟨by omega, by omega⟩, e1, last, .inr ⟨e4, e5, rfl⟩, hF⟩
    · have ht : nextP c s = s.at_ := by unfold nextP; rw [if_neg (by rw [hw]; decide), if_neg (by omega)]; omega
      rw [ht]
      have hlate : lateP c s s.at_ = ({ s with now := s.at_ }, -1) := by unfold lateP; rw [if_neg (by rw [hw]; simp)]
      have hgo : goP c { s with now := s.at_ } s.at_ = (sentP { s with now := s.at_ } s.at_, true) := by
        unfold goP
        rw [if_neg (by show ¬ (s.waits = true ∨ s.at_ < s.at_); rw [hw]; simp), if_neg (by show ¬ s.opn < 0; omega)]
      have hstep : stepP c s s.at_ = (sentP { s with now := s.at_ } s.at_, true, -1) := by
        unfold stepP; rw [hlate, hgo]
      rw [hstep]
      refine ⟨⟨by omega, by omega⟩, rfl, last, .inr ⟨fun i => rfl, fun _ => ⟨rfl, rfl⟩, rfl⟩, h.ln, h.la, ⟨ha.1, by show s.at_ ≤ M'; omega⟩, ⟨ha.1, by show s.at_ ≤ M'; omega⟩, fun i z hz => by have := h.du i z hz; omega, fun i z hz => by have := h.lt i z hz; omega, .inr ⟨k, h1, h2, h3, ⟨x, hx, hxd, fun e => by cases e⟩, ⟨h5.1, by show s.began ≤ s.at_; omega⟩, ⟨by show 1 ≤ s.tries + 1; omega, by show s.tries + 1 ≤ _; omega⟩, .inl ⟨rfl, ⟨by show s.at_ ≤ s.at_; omega, by show s.at_ ≤ s.at_ + _; omega⟩, by show s.at_ ≤ s.began + (s.tries + 1 - 1) * c.p; rw [show s.tries + 1 - 1 = s.tries by omega]; exact w3⟩⟩, ?_⟩
      intro n z u hz hu hf
      have hg : (sentP { s with now := s.at_ } s.at_).g = s.g := by unfold PSt.g; show (if s.opn < 0 then _ else _) = _; rw [if_neg (by omega), if_neg (by omega)]; rfl
      have hb : (sentP { s with now := s.at_ } s.at_).b c = s.b c := by unfold PSt.b; show (if s.opn < 0 then _ else _) = _; rw [if_neg (by omega), if_neg (by omega)]; rfl
      rw [hg, hb]
      exact h.fair n z u hz hu hf
/-- At the beginning. -/
theorem PInv.start (c : PCf) (hc : c.ok) (l : List PPt) (h : ∀ (i : Nat) (x : PPt), l[i]? = some x → x.due = 0 ∧ x.fails = 0 ∧ x.turns = 0) : PInv c l.length { l := l, now := 0, opn := -1, began := 0, tries := 0, waits := false, at_ := 0 } (List.replicate l.length 0) 0 := by
  have hlt : ∀ (i : Nat) (t : Int), (List.replicate l.length (0 : Int))[i]? = some t → t = 0 := fun i t ht => by
    rw [List.getElem?_replicate] at ht
    split at ht
    · cases ht; rfl
    · cases ht
  refine ⟨rfl, by simp, by simp, by simp, fun i x hx => by have := h i x hx; omega, fun i t ht => by have := hlt i t ht; omega, .inl ⟨rfl, rfl, Int.le_refl _⟩, fun n x t hx ht _ => ?_⟩
  have h1 := h n x hx
  have h2 := hlt n t ht
  have h3 := hc.2.2.2.1
  have hcn := cnt_le (othB l n (-1) x.due) l.length
  have hm := mul_mono c hc _ _ hcn
  refine ⟨by omega, fun _ => ⟨?_, ?_⟩⟩
  · show x.due < (0 : Int) + c.per; omega
  · show (0 : Int) + c.turn * ((cnt (othB l n (-1) x.due) l.length : Nat) : Int) ≤ _
    omega
end Go.Proofs.YtcipleanckeoaaaDoor
