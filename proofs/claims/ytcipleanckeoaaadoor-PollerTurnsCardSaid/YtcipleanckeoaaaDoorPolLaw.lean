/- The poller's plain law: whoever is not offline is asked in time. -/
import Derived.Test.YtcipleanckeoaaaDoorPolPlain
namespace Go.Proofs.YtcipleanckeoaaaDoor
def PCf.p (c : PCf) : Int := c.tmo + c.sil
/-- How long a turn takes at most. -/
def PCf.turn (c : PCf) : Int := (c.ret + 1) * c.p
def othB (l : List PPt) (n : Nat) (opn d : Int) (m : Nat) : Bool := decide (m ≠ n ∧ (m : Int) ≠ opn) && (match l[m]? with | some y => decide (y.due ≤ d) | none => false)
/-- The others that come ahead. -/
def ahead (s : PSt) (n : Nat) (d : Int) (N : Nat) : Nat := cnt (othB s.l n s.opn d) N
def PSt.g (s : PSt) : Int := if s.opn < 0 then s.at_ else s.began
def PSt.b (c : PCf) (s : PSt) : Int := if s.opn < 0 then s.at_ else s.began + c.turn
def OpenI (c : PCf) (N : Nat) (s : PSt) (last : List Int) (k : Nat) : Prop :=
  s.opn = k ∧ k < N ∧ last[k]? = some s.began ∧ (∃ x, s.l[k]? = some x ∧ s.began + c.per ≤ x.due ∧ (s.waits = false → x.fails < c.fls)) ∧ (0 ≤ s.began ∧ s.began ≤ s.now) ∧ (1 ≤ s.tries ∧ s.tries ≤ c.ret + 1) ∧
    ((s.waits = true ∧ (s.at_ ≤ s.now ∧ s.now ≤ s.at_ + c.tmo) ∧ s.at_ ≤ s.began + (s.tries - 1) * c.p) ∨ (s.waits = false ∧ s.tries ≤ c.ret ∧ s.now ≤ s.at_ ∧ s.at_ ≤ s.began + s.tries * c.p))
def FairI (c : PCf) (N : Nat) (s : PSt) (last : List Int) : Prop :=
  ∀ (n : Nat) (x : PPt) (t : Int), s.l[n]? = some x → last[n]? = some t → x.fails < c.fls → x.due ≤ t + c.per ∧ (s.opn ≠ n → x.due < s.g + c.per ∧ s.b c + c.turn * (ahead s n x.due N) ≤ t + c.per + c.turn * N)
structure PInv (c : PCf) (N : Nat) (s : PSt) (last : List Int) (M : Int) : Prop where
  ln : s.l.length = N
  la : last.length = N
  nw : 0 ≤ s.now ∧ s.now ≤ M
  aw : 0 ≤ s.at_ ∧ s.at_ ≤ M
  du : ∀ (i : Nat) (x : PPt), s.l[i]? = some x → (0 ≤ x.due ∧ x.due ≤ M) ∧ 0 ≤ x.fails ∧ 0 ≤ x.turns
  lt : ∀ (i : Nat) (t : Int), last[i]? = some t → 0 ≤ t ∧ t ≤ M
  op : (s.opn = -1 ∧ s.waits = false ∧ s.now ≤ s.at_) ∨ ∃ k : Nat, OpenI c N s last k
  fair : FairI c N s last
theorem turn_ge (c : PCf) (hc : c.ok) (n : Int) (h : n ≤ c.ret + 1) : n * c.p ≤ c.turn := by
  unfold PCf.turn PCf.p
  obtain ⟨h1, h2, _⟩ := hc
  exact Int.mul_le_mul_of_nonneg_right h (by omega)
theorem turn_pos (c : PCf) (hc : c.ok) : 0 < c.turn ∧ c.turn ≤ 94489280512 ∧ c.p ≤ c.turn := by
  have h1 := turn_ge c hc 1 (by have := hc.2.2.1; omega)
  have h2 : c.turn ≤ 11 * c.p := by
    unfold PCf.turn PCf.p
    exact Int.mul_le_mul_of_nonneg_right (by have := hc.2.2.1; omega) (by have := hc.1; have := hc.2.1; omega)
  unfold PCf.p at *
  obtain ⟨h3, h4, _⟩ := hc
  omega
theorem mul_one_more (c : PCf) (n : Int) : (n - 1) * c.p + c.p = n * c.p := by
  rw [Int.sub_mul, Int.one_mul]; omega
theorem mul_more (c : PCf) (n : Nat) : c.turn * ((n + 1 : Nat) : Int) = c.turn * n + c.turn := by
  rw [Int.natCast_add, Int.mul_add]; simp
theorem mul_mono (c : PCf) (hc : c.ok) (a b : Nat) (h : a ≤ b) : c.turn * a ≤ c.turn * b :=
  Int.mul_le_mul_of_nonneg_left (by omega) (by have := turn_pos c hc; omega)
/-- By when the bus is free again, at the latest. -/
theorem PInv.now_b {c : PCf} {N : Nat} {s : PSt} {last : List Int} {M : Int} (hc : c.ok) (h : PInv c N s last M) : s.now ≤ s.b c := by
  unfold PSt.b
  rcases h.op with ⟨h1, _, h2⟩ | ⟨k, h1, _, _, _, h4, h5, h6⟩
  · rw [if_pos (by omega)]; exact h2
  · rw [if_neg (by omega)]
    have ht := turn_ge c hc s.tries h5.2
    have hm := mul_one_more c s.tries
    unfold PCf.p at ht hm
    have := hc.2.1
    rcases h6 with ⟨_, h7, h8⟩ | ⟨_, _, h7, h8⟩
    · unfold PCf.p at h8; omega
    · unfold PCf.p at h8; omega
/-- Whoever is not offline, and whose turn is not open, had one not long ago. -/
theorem PInv.soon {c : PCf} {N : Nat} {s : PSt} {last : List Int} {M : Int} (hc : c.ok) (h : PInv c N s last M) (n : Nat) (x : PPt) (t : Int) (hx : s.l[n]? = some x) (ht : last[n]? = some t) (hf : x.fails < c.fls) (ho : s.opn ≠ n) : s.now - t ≤ c.per + c.turn * N := by
  have h1 := h.now_b hc
  have h2 := (h.fair n x t hx ht hf).2 ho
  have h3 : 0 ≤ c.turn * (ahead s n x.due N : Int) := Int.mul_nonneg (by have := turn_pos c hc; omega) (by omega)
  omega
/-- A turn that is open is not over. -/
theorem PInv.turns {c : PCf} {N : Nat} {s : PSt} {last : List Int} {M : Int} (hc : c.ok) (h : PInv c N s last M) (ho : 0 ≤ s.opn) : s.now - s.began ≤ c.turn ∧ s.tries ≤ c.ret + 1 := by
  have h1 := h.now_b hc
  unfold PSt.b at h1
  rw [if_neg (by omega)] at h1
  rcases h.op with ⟨h2, _⟩ | ⟨k, _, _, _, _, _, h5, _⟩
  · omega
  · exact ⟨by omega, h5.2⟩
theorem othB_le {l : List PPt} {n : Nat} {opn d : Int} {m : Nat} (h : othB l n opn d m = true) : m ≠ n ∧ (m : Int) ≠ opn ∧ ∃ y, l[m]? = some y ∧ y.due ≤ d := by
  unfold othB at h
  rw [Bool.and_eq_true] at h
  obtain ⟨h1, h2⟩ := h
  have h1 := of_decide_eq_true h1
  refine ⟨h1.1, h1.2, ?_⟩
  split at h2
  · rename_i y hy; exact ⟨y, hy, of_decide_eq_true h2⟩
  · cases h2
theorem othB_of {l : List PPt} {n : Nat} {opn d : Int} {m : Nat} {y : PPt} (h1 : m ≠ n) (h2 : (m : Int) ≠ opn) (hy : l[m]? = some y) (hd : y.due ≤ d) : othB l n opn d m = true := by
  unfold othB
  rw [hy]
  simp [h1, h2, hd]
theorem othB_no {l : List PPt} {n : Nat} {opn d : Int} {m : Nat} (h : ¬ (m ≠ n ∧ (m : Int) ≠ opn ∧ ∃ y, l[m]? = some y ∧ y.due ≤ d)) : othB l n opn d m = false := by
  cases hb : othB l n opn d m with
  | false => rfl
  | true => exact absurd (othB_le hb) h
/-- An open turn ends: the point may have changed, but it is due no sooner than a period behind its beginning. -/
theorem PInv.close {c : PCf} {N : Nat} {s : PSt} {last : List Int} {M : Int} (hc : c.ok) (h : PInv c N s last M) (k : Nat) (ho : OpenI c N s last k) (hw : s.waits = true) (x y : PPt) (hx : s.l[k]? = some x)
    (hy1 : s.began + c.per ≤ y.due) (hy2 : y.due ≤ M) (hy3 : y.fails < c.fls → y.due = s.began + c.per) (hy4 : 0 ≤ y.fails) (hy5 : 0 ≤ y.turns) (M' : Int) (hM : M + 4294967296 ≤ M') :
    PInv c N { quietP c s with l := s.l.set k y, opn := -1 } last M' := by
  obtain ⟨h1, h2, h3, _, h5, h6, h7⟩ := ho
  obtain ⟨c1, c2, c3, c4, c5⟩ := hc
  have hc : c.ok := ⟨c1, c2, c3, c4, c5⟩
  have hat : s.at_ ≤ s.began + (s.tries - 1) * c.p ∧ s.at_ ≤ s.now ∧ s.now ≤ s.at_ + c.tmo := by
    rcases h7 with ⟨_, a, b⟩ | ⟨a, _⟩
    · exact ⟨b, a⟩
    · rw [hw] at a; cases a
  have hend : s.now + c.sil ≤ s.began + c.turn := by
    have ht := turn_ge c hc s.tries h6.2
    have hm := mul_one_more c s.tries
    unfold PCf.p at ht hm hat
    omega
  have hlen := h.ln
  have hn := h.nw
  have hset : (s.l.set k y)[k]? = some y := by rw [List.getElem?_set_self (by omega)]
  have hoth : ∀ m, m ≠ k → (s.l.set k y)[m]? = s.l[m]? := fun m hm => List.getElem?_set_ne (fun e => hm e.symm)
  refine ⟨by simp [hlen], h.la, ⟨hn.1, by show s.now ≤ M'; omega⟩, ⟨by show 0 ≤ s.now + c.sil; omega, by show s.now + c.sil ≤ M'; omega⟩, ?_, fun i t ht => by have := h.lt i t ht; omega, .inl ⟨rfl, rfl, by show s.now ≤ s.now + c.sil; omega⟩, ?_⟩
  · intro i z hz
    have hz : (s.l.set k y)[i]? = some z := hz
    by_cases hi : i = k
    · subst hi
      rw [hset] at hz; cases hz
      exact ⟨by omega, hy4, hy5⟩
    · rw [hoth i hi] at hz
      have := h.du i z hz
      omega
  · intro n z t hz ht hf
    have hz : (s.l.set k y)[n]? = some z := hz
    have hg : ({ quietP c s with l := s.l.set k y, opn := -1 } : PSt).g = s.now + c.sil := rfl
    have hb : ({ quietP c s with l := s.l.set k y, opn := -1 } : PSt).b c = s.now + c.sil := rfl
    rw [hg, hb]
    by_cases hi : n = k
    · subst hi
      rw [hset] at hz; cases hz
      rw [h3] at ht; cases ht
      refine ⟨by have := hy3 hf; omega, fun _ => ⟨by have := hy3 hf; omega, ?_⟩⟩
      have hcn := cnt_out (othB (s.l.set n y) n (-1) y.due) N n h2 (othB_no (fun h => h.1 rfl))
      have hm := mul_mono c hc _ _ hcn
      rw [mul_more] at hm
      show s.now + c.sil + c.turn * ((cnt (othB (s.l.set n y) n (-1) y.due) N : Nat) : Int) ≤ _
      omega
    · rw [hoth n hi] at hz
      have hfr := h.fair n z t hz ht hf
      have hnk : s.opn ≠ n := by omega
      obtain ⟨f1, f2⟩ := hfr
      obtain ⟨f2, f3⟩ := f2 hnk
      have hgs : s.g = s.began := by unfold PSt.g; rw [if_neg (by omega)]
      have hbs : s.b c = s.began + c.turn := by unfold PSt.b; rw [if_neg (by omega)]
      rw [hgs] at f2
      rw [hbs] at f3
      refine ⟨f1, fun _ => ⟨by omega, ?_⟩⟩
      have hcn : cnt (othB (s.l.set k y) n (-1) z.due) N ≤ ahead s n z.due N := by
        refine cnt_mono _ _ _ fun m hm hP => ?_
        obtain ⟨p1, p2, v, p3, p4⟩ := othB_le hP
        by_cases hmk : m = k
        · subst hmk
          rw [hset] at p3; cases p3
          omega
        · rw [hoth m hmk] at p3
          exact othB_of p1 (by omega) p3 p4
      have hm := mul_mono c hc _ _ hcn
      show s.now + c.sil + c.turn * ((cnt (othB (s.l.set k y) n (-1) z.due) N : Nat) : Int) ≤ _
      omega
/-- A try fails. -/
theorem PInv.fail {c : PCf} {N : Nat} {s : PSt} {last : List Int} {M : Int} (hc : c.ok) (h : PInv c N s last M) (k : Nat) (ho : OpenI c N s last k) (hw : s.waits = true) (M' : Int) (hM : M + 4294967296 ≤ M') :
    PInv c N (failP c s).1 last M' := by
  have hO := ho
  obtain ⟨h1, h2, h3, ⟨x, hx, hxd, _⟩, h5, h6, h7⟩ := ho
  have hk : s.opn.toNat = k := by omega
  unfold failP
  rw [hk, hx]
  dsimp only
  split
  · rename_i hif
    obtain ⟨i1, i2⟩ := hif
    have hxf : x.fails < c.fls := by
      unfold offB at i1
      have := of_decide_eq_false i1
      omega
    obtain ⟨c1, c2, c3, c4, c5⟩ := hc
    have hc : c.ok := ⟨c1, c2, c3, c4, c5⟩
    have hat : s.at_ ≤ s.began + (s.tries - 1) * c.p ∧ s.at_ ≤ s.now ∧ s.now ≤ s.at_ + c.tmo := by
      rcases h7 with ⟨_, a, b⟩ | ⟨a, _⟩
      · exact ⟨b, a⟩
      · rw [hw] at a; cases a
    have hend : s.now + c.sil ≤ s.began + s.tries * c.p := by
      have hm := mul_one_more c s.tries
      unfold PCf.p at hm hat ⊢
      omega
    have hn := h.nw
    exact ⟨h.ln, h.la, ⟨hn.1, by show s.now ≤ M'; omega⟩, ⟨by show 0 ≤ s.now + c.sil; omega, by show s.now + c.sil ≤ M'; omega⟩, fun i z hz => by have := h.du i z hz; omega, fun i t ht => by have := h.lt i t ht; omega,
      .inr ⟨k, h1, h2, h3, ⟨x, hx, hxd, fun _ => hxf⟩, h5, h6, .inr ⟨rfl, i2, by show s.now ≤ s.now + c.sil; omega, hend⟩⟩, fun n z t hz ht hf => by
        have hg : (quietP c s).g = s.g := by unfold PSt.g; show (if s.opn < 0 then _ else _) = _; rw [if_neg (by omega), if_neg (by omega)]; rfl
        have hb : (quietP c s).b c = s.b c := by unfold PSt.b; show (if s.opn < 0 then _ else _) = _; rw [if_neg (by omega), if_neg (by omega)]; rfl
        rw [hg, hb]
        exact h.fair n z t hz ht hf⟩
  · rename_i hif
    have hd := h.du k x hx
    rw [← hk]
    have := h.close hc k hO hw x { x with fails := x.fails + 1 } hx hxd hd.1.2 (fun hf => by
      have hfr := h.fair k x s.began hx h3 (by have : x.fails + 1 < c.fls := hf; omega)
      show x.due = _
      omega) (by show 0 ≤ x.fails + 1; omega) hd.2.2 M' hM
    rw [hk]
    exact this
/-- A right reply. -/
theorem PInv.heard {c : PCf} {N : Nat} {s : PSt} {last : List Int} {M : Int} (hc : c.ok) (h : PInv c N s last M) (k : Nat) (ho : OpenI c N s last k) (hw : s.waits = true) (M' : Int) (hM : M + 4294967296 ≤ M') :
    PInv c N (heardP c s) last M' := by
  have hO := ho
  obtain ⟨h1, h2, h3, ⟨x, hx, hxd, _⟩, h5, h6, h7⟩ := ho
  have hk : s.opn.toNat = k := by omega
  unfold heardP
  rw [hk, hx]
  have hd := h.du k x hx
  exact h.close hc k hO hw x { x with fails := 0, due := s.began + c.per } hx (by show s.began + c.per ≤ s.began + c.per; omega) (by show s.began + c.per ≤ M; omega) (fun _ => rfl) (by show (0 : Int) ≤ 0; omega) hd.2.2 M' hM
theorem PInv.hear {c : PCf} {N : Nat} {s s' : PSt} {last : List Int} {M : Int} (hc : c.ok) (h : PInv c N s last M) (hr : HearR c s s') (M' : Int) (hM : M + 4294967296 ≤ M') : PInv c N s' last M' := by
  rcases hr with rfl | ⟨hw, ho, hr⟩
  · exact ⟨h.ln, h.la, by have := h.nw; omega, by have := h.aw; omega, fun i z hz => by have := h.du i z hz; omega, fun i t ht => by have := h.lt i t ht; omega, h.op, h.fair⟩
  · rcases h.op with ⟨h1, h2, _⟩ | ⟨k, hk⟩
    · omega
    · rcases hr with rfl | rfl
      · exact h.fail hc k hk hw M' hM
      · exact h.heard hc k hk hw M' hM
end Go.Proofs.YtcipleanckeoaaaDoor
