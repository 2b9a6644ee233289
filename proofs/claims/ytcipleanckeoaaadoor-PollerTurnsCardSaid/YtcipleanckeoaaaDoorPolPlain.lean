/- The poller's plain law: what it is, what its calls do to it, and that whoever is not offline is asked in time. -/
namespace Go.Proofs.YtcipleanckeoaaaDoor
/-- A point, with when it is due, its fails and turns. -/
structure PPt where
  unit : Int
  fn : Int
  addr : Int
  order : Int
  due : Int
  fails : Int
  turns : Int
/-- How points are asked. -/
structure PCf where
  tmo : Int
  sil : Int
  ret : Int
  per : Int
  fls : Int
/-- A poller. -/
structure PSt where
  l : List PPt
  now : Int
  opn : Int
  began : Int
  tries : Int
  waits : Bool
  at_ : Int
def PCf.ok (c : PCf) : Prop := (1 ≤ c.tmo ∧ c.tmo ≤ 4294967296) ∧ (1 ≤ c.sil ∧ c.sil ≤ 4294967296) ∧ (0 ≤ c.ret ∧ c.ret ≤ 10) ∧ (1 ≤ c.per ∧ c.per ≤ 4294967296) ∧ (1 ≤ c.fls ∧ c.fls ≤ 100)
/-- The open point. -/
def PSt.x (s : PSt) : Option PPt := s.l[s.opn.toNat]?
def offB (c : PCf) (x : PPt) : Bool := decide (c.fls ≤ x.fails)
/-- How many times a period is doubled. -/
def slowN (c : PCf) (x : PPt) : Int := min (max 0 (x.fails - c.fls + 1)) 5
def quietP (c : PCf) (s : PSt) : PSt := { s with waits := false, at_ := s.now + c.sil }
def failP (c : PCf) (s : PSt) : PSt × Int :=
  match s.l[s.opn.toNat]? with
  | none => (s, -1)
  | some x => if offB c x = false ∧ s.tries ≤ c.ret then (quietP c s, -1)
    else ({ quietP c s with l := s.l.set s.opn.toNat { x with fails := x.fails + 1 }, opn := -1 }, s.opn)
/-- The first of those that are due, among the first n: which, and since when. -/
def firstN (now : Int) (l : List PPt) : Nat → Int × Int
  | 0 => (-1, 0)
  | i + 1 => match l[i]? with
    | none => firstN now l i
    | some x => if now < x.due then firstN now l i else if (firstN now l i).1 < 0 ∨ x.due < (firstN now l i).2 then ((i : Int), x.due) else firstN now l i
def begunP (c : PCf) (s : PSt) (k : Int) (x : PPt) : PSt :=
  { s with l := s.l.set k.toNat { x with due := s.now + c.per * 2 ^ (slowN c x).toNat, turns := x.turns + 1 }, opn := k, began := s.now, tries := 0 }
def beginP (c : PCf) (s : PSt) : PSt × Bool :=
  match s.l[(firstN s.now s.l s.l.length).1.toNat]? with
  | none => (s, false)
  | some x => if (firstN s.now s.l s.l.length).1 < 0 then (s, false) else (begunP c s (firstN s.now s.l s.l.length).1 x, true)
/-- What Step does with a tick that may come: the poller behind it, whether it sent, and whose turn failed. -/
def lateP (c : PCf) (s : PSt) (t : Int) : PSt × Int :=
  if s.waits = true ∧ s.at_ + c.tmo ≤ t then failP c { s with now := t } else ({ s with now := t }, -1)
def sentP (s : PSt) (t : Int) : PSt := { s with tries := s.tries + 1, waits := true, at_ := t }
def goP (c : PCf) (s : PSt) (t : Int) : PSt × Bool :=
  if s.waits = true ∨ t < s.at_ then (s, false)
  else if s.opn < 0 then (if (beginP c s).2 = true then (sentP (beginP c s).1 t, true) else (s, false))
  else (sentP s t, true)
def stepP (c : PCf) (s : PSt) (t : Int) : PSt × Bool × Int :=
  ((goP c (lateP c s t).1 t).1, (goP c (lateP c s t).1 t).2, (lateP c s t).2)
/-- The first due of all. -/
def minD : List PPt → Int
  | [] => 0
  | [x] => x.due
  | x :: y :: xs => min x.due (minD (y :: xs))
def nextP (c : PCf) (s : PSt) : Int :=
  max (if s.waits = true then s.at_ + c.tmo else if s.opn < 0 then max s.at_ (minD s.l) else s.at_) s.now
/-- What a right reply does. -/
def heardP (c : PCf) (s : PSt) : PSt :=
  match s.l[s.opn.toNat]? with
  | none => s
  | some x => { quietP c s with l := s.l.set s.opn.toNat { x with fails := 0, due := s.began + c.per }, opn := -1 }
/-- What comes of a frame. -/
def HearR (c : PCf) (s s' : PSt) : Prop := s' = s ∨ (s.waits = true ∧ s.opn ≥ 0 ∧ (s' = (failP c s).1 ∨ s' = heardP c s))
/-- How many below n are so. -/
def cnt (P : Nat → Bool) : Nat → Nat
  | 0 => 0
  | n + 1 => cnt P n + if P n = true then 1 else 0
theorem cnt_le (P : Nat → Bool) (n : Nat) : cnt P n ≤ n := by
  induction n with
  | zero => exact Nat.le_refl _
  | succ n ih => unfold cnt; split <;> omega
theorem cnt_mono (P Q : Nat → Bool) (n : Nat) (h : ∀ i, i < n → P i = true → Q i = true) : cnt P n ≤ cnt Q n := by
  induction n with
  | zero => exact Nat.le_refl _
  | succ n ih =>
    have h1 := ih fun i hi => h i (by omega)
    have h2 := h n (by omega)
    unfold cnt
    split
    · rename_i hp; rw [if_pos (h2 hp)]; omega
    · split <;> omega
theorem cnt_lt (P Q : Nat → Bool) (n j : Nat) (h : ∀ i, i < n → P i = true → Q i = true) (hj : j < n) (hp : P j = false) (hq : Q j = true) : cnt P n + 1 ≤ cnt Q n := by
  induction n with
  | zero => omega
  | succ n ih =>
    have h2 := h n (by omega)
    unfold cnt
    by_cases hjn : j = n
    · subst hjn
      have h1 := cnt_mono P Q j fun i hi => h i (by omega)
      rw [if_neg (by rw [hp]; simp), if_pos hq]; omega
    · have h1 := ih (fun i hi => h i (by omega)) (by omega)
      split
      · rename_i hp'; rw [if_pos (h2 hp')]; omega
      · split <;> omega
theorem cnt_out (P : Nat → Bool) (n j : Nat) (hj : j < n) (hp : P j = false) : cnt P n + 1 ≤ n := by
  have := cnt_lt P (fun _ => true) n j (fun _ _ _ => rfl) hj hp rfl
  have h2 := cnt_le (fun _ => true) n
  omega
theorem cnt_same (P Q : Nat → Bool) (n : Nat) (h : ∀ i, i < n → P i = Q i) : cnt P n = cnt Q n := by
  induction n with
  | zero => rfl
  | succ n ih => unfold cnt; rw [ih fun i hi => h i (by omega), h n (by omega)]
theorem minD_le : ∀ (l : List PPt) (i : Nat) (x : PPt), l[i]? = some x → minD l ≤ x.due := by
  intro l
  induction l with
  | nil => intro i x h; simp at h
  | cons a t ih =>
    intro i x h
    cases t with
    | nil =>
      cases i with
      | zero => simp at h; subst h; exact Int.le_refl _
      | succ i => simp at h
    | cons b t =>
      show min a.due (minD (b :: t)) ≤ _
      cases i with
      | zero => simp at h; subst h; omega
      | succ i =>
        have := ih i x (by simpa using h)
        omega
theorem minD_is : ∀ (l : List PPt), l ≠ [] → ∃ (i : Nat) (x : PPt), l[i]? = some x ∧ minD l = x.due := by
  intro l
  induction l with
  | nil => intro h; exact absurd rfl h
  | cons a t ih =>
    intro _
    cases t with
    | nil => exact ⟨0, a, rfl, rfl⟩
    | cons b t =>
      obtain ⟨i, x, h1, h2⟩ := ih (by simp)
      by_cases h : a.due ≤ minD (b :: t)
      · exact ⟨0, a, rfl, by show min a.due (minD (b :: t)) = _; omega⟩
      · exact ⟨i + 1, x, by simpa using h1, by show min a.due (minD (b :: t)) = _; omega⟩
theorem first_is (now : Int) (l : List PPt) : ∀ n, n ≤ l.length → (firstN now l n = (-1, 0) ∧ ∀ (i : Nat) (x : PPt), i < n → l[i]? = some x → now < x.due) ∨
    ∃ (k : Nat) (x : PPt), k < n ∧ l[k]? = some x ∧ firstN now l n = ((k : Int), x.due) ∧ x.due ≤ now ∧ ∀ (i : Nat) (y : PPt), i < n → l[i]? = some y → x.due ≤ y.due := by
  intro n
  induction n with
  | zero => intro _; exact .inl ⟨rfl, fun i x h => by omega⟩
  | succ n ih =>
    intro hn
    obtain ⟨y, hy⟩ : ∃ y, l[n]? = some y := ⟨_, List.getElem?_eq_getElem (by omega)⟩
    have he : firstN now l (n + 1) = if now < y.due then firstN now l n else if (firstN now l n).1 < 0 ∨ y.due < (firstN now l n).2 then ((n : Int), y.due) else firstN now l n := by
      show (match l[n]? with | none => _ | some x => _) = _
      rw [hy]
    have last : ∀ {Q : PPt → Prop} (i : Nat) (x : PPt), (i < n → l[i]? = some x → Q x) → Q y → i < n + 1 → l[i]? = some x → Q x := fun i x h1 h2 h3 h4 => by
      by_cases h : i = n
      · subst h; rw [hy] at h4; cases h4; exact h2
      · exact h1 (by omega) h4
    rcases ih (by omega) with ⟨h1, h2⟩ | ⟨k, x, h1, h2, h3, h4, h5⟩
    · by_cases hd : now < y.due
      · rw [if_pos hd] at he
        exact .inl ⟨he.trans h1, fun i x hi hx => last (Q := fun z => now < z.due) i x (h2 i x) hd hi hx⟩
      · rw [if_neg hd, if_pos (.inl (by rw [h1]; decide))] at he
        exact .inr ⟨n, y, by omega, hy, he, by omega, fun i x hi hx => last (Q := fun z => y.due ≤ z.due) i x (fun a b => by have := h2 i x a b; omega) (Int.le_refl _) hi hx⟩
    · by_cases hd : now < y.due
      · rw [if_pos hd] at he
        exact .inr ⟨k, x, by omega, h2, he.trans h3, h4, fun i z hi hz => last (Q := fun z => x.due ≤ z.due) i z (h5 i z) (by omega) hi hz⟩
      · by_cases hl : y.due < x.due
        · rw [if_neg hd, if_pos (.inr (by rw [h3]; exact hl))] at he
          exact .inr ⟨n, y, by omega, hy, he, by omega, fun i z hi hz => last (Q := fun z => y.due ≤ z.due) i z (fun a b => by have := h5 i z a b; omega) (Int.le_refl _) hi hz⟩
        · rw [if_neg hd, if_neg (by rw [h3]; rintro (h | h) <;> (simp at h; omega))] at he
          exact .inr ⟨k, x, by omega, h2, he.trans h3, h4, fun i z hi hz => last (Q := fun z => x.due ≤ z.due) i z (h5 i z) (by omega) hi hz⟩
end Go.Proofs.YtcipleanckeoaaaDoor
