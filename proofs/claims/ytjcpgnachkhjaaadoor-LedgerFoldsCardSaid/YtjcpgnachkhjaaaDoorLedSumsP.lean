/- LedgerSums: the plain law: what a book's totals and sums have to do with one another. No program in sight. -/
import Derived.Test.YtjcpgnachkhjaaaDoorLedFold
import Derived.Test.YtjcpgnachkhjaaaDoorLedSum
namespace Go.Proofs.YtjcpgnachkhjaaaDoor
open Go.RowKit
set_option linter.unusedVariables false
def tS (f : Tot → Int) (b : Bk) (m : Nat) : Nat → Int
  | 0 => 0
  | k + 1 => tS f b m k + f (b.totAt m k)
def sumN (s : SumS) : Int := s.intervals + s.corrected + s.suspects + s.replaced
def aS (b : Bk) : Nat → Int
  | 0 => b.seals
  | m + 1 => aS b m + sumN (b.sumAt m)
structure SumInv (b : Bk) : Prop where
  e : ∀ m, m < 64 → tS Tot.energy b m 8 = (b.sumAt m).energy
  c : ∀ m, m < 64 → tS Tot.cost b m 8 = (b.sumAt m).cost
  n : ∀ m, m < 64 → tS Tot.many b m 8 = (b.sumAt m).intervals + (b.sumAt m).corrected
  f : ∀ m, m < 64 → (b.sumAt m).flagged ≤ (b.sumAt m).intervals
  a : aS b 64 = b.many
theorem getD_rep {α : Type} (n i : Nat) (x : α) : (List.replicate n x).getD i x = x := by
  rw [List.getD_eq_getElem?_getD, List.getElem?_replicate]
  split <;> rfl
theorem zero_tot (m k : Nat) : Bk.zero.totAt m k = Tot.zero := getD_rep _ _ _
theorem zero_sum (m : Nat) : Bk.zero.sumAt m = SumS.zero := getD_rep _ _ _
theorem tS_zero (f : Tot → Int) (h : f Tot.zero = 0) (m k : Nat) : tS f Bk.zero m k = 0 := by
  induction k with
  | zero => rfl
  | succ k ih => unfold tS; rw [ih, zero_tot, h]; rfl
theorem aS_zero (m : Nat) : aS Bk.zero m = 0 := by
  induction m with
  | zero => rfl
  | succ k ih => unfold aS; rw [ih, zero_sum]; rfl
theorem SumInv.zero : SumInv Bk.zero where
  e := fun m _ => by rw [tS_zero _ rfl, zero_sum]; rfl
  c := fun m _ => by rw [tS_zero _ rfl, zero_sum]; rfl
  n := fun m _ => by rw [tS_zero _ rfl, zero_sum]; rfl
  f := fun m _ => by rw [zero_sum]; decide
  a := by rw [aS_zero]; rfl
theorem getD_set {α : Type} (l : List α) (i j : Nat) (x d : α) (h : i < l.length) : (l.set i x).getD j d = if j = i then x else l.getD j d := by
  rw [List.getD_eq_getElem?_getD, List.getD_eq_getElem?_getD, List.getElem?_set]
  by_cases hij : i = j
  · subst hij; simp [h]
  · rw [if_neg hij, if_neg (fun e => hij e.symm)]
/-- A book with another total and sum. -/
def Bk.puts (b : Bk) (m k : Nat) (t : Tot) (s : SumS) (o : List Int) (n : Int) : Bk := { b with tot := b.tot.set (m * 8 + k) t, sums := b.sums.set m s, ofm := o, many := n }
theorem puts_tot {K : Int} {b : Bk} (hb : b.ok K) (m k : Nat) (hm : m < 64) (hk : k < 8) (t : Tot) (s : SumS) (o : List Int) (n : Int) (m' k' : Nat) (hk' : k' < 8) : (b.puts m k t s o n).totAt m' k' = if m' = m ∧ k' = k then t else b.totAt m' k' := by
  unfold Bk.totAt Bk.puts
  dsimp only
  rw [getD_set _ _ _ _ _ (by rw [hb.tl]; omega)]
  by_cases h : m' = m ∧ k' = k
  · rw [if_pos h, if_pos (by omega)]
  · rw [if_neg h, if_neg (by omega)]
theorem puts_sum {K : Int} {b : Bk} (hb : b.ok K) (m k : Nat) (hm : m < 64) (t : Tot) (s : SumS) (o : List Int) (n : Int) (m' : Nat) : (b.puts m k t s o n).sumAt m' = if m' = m then s else b.sumAt m' := by
  unfold Bk.sumAt Bk.puts
  dsimp only
  rw [getD_set _ _ _ _ _ (by rw [hb.sl]; omega)]
theorem puts_tS (f : Tot → Int) {K : Int} {b : Bk} (hb : b.ok K) (m k : Nat) (hm : m < 64) (hk : k < 8) (t : Tot) (s : SumS) (o : List Int) (n : Int) (m' : Nat) : ∀ j, j ≤ 8 → tS f (b.puts m k t s o n) m' j = tS f b m' j + (if m' = m ∧ k < j then f t - f (b.totAt m k) else 0) := by
  intro j
  induction j with
  | zero => intro _; simp [tS]
  | succ j ih =>
    intro hj
    unfold tS
    rw [ih (by omega), puts_tot hb m k hm hk t s o n m' j (by omega)]
    by_cases h1 : m' = m
    · subst h1
      by_cases h2 : j = k
      · subst h2; simp; omega
      · by_cases h3 : k < j
        · rw [if_pos ⟨rfl, h3⟩, if_neg (by omega), if_pos ⟨rfl, by omega⟩]; omega
        · rw [if_neg (by omega), if_neg (by omega), if_neg (by omega)]; omega
    · rw [if_neg (by omega), if_neg (by omega), if_neg (by omega)]; omega
theorem puts_aS {K : Int} {b : Bk} (hb : b.ok K) (m k : Nat) (hm : m < 64) (t : Tot) (s : SumS) (o : List Int) (n : Int) : ∀ j, aS (b.puts m k t s o n) j = aS b j + (if m < j then sumN s - sumN (b.sumAt m) else 0) := by
  intro j
  induction j with
  | zero => simp [aS, Bk.puts]
  | succ j ih =>
    unfold aS
    rw [ih, puts_sum hb m k hm t s o n j]
    by_cases h2 : j = m
    · subst h2; simp; omega
    · by_cases h3 : m < j
      · rw [if_pos h3, if_neg h2, if_pos (by omega)]; omega
      · rw [if_neg h3, if_neg h2, if_neg (by omega)]; omega
theorem sumP_two (a b : Int) (h : (sumP a b).2 = 0) : (sumP a b).1 = a + b := by
  unfold sumP at h ⊢
  split
  · rfl
  · rename_i hn; rw [if_neg hn] at h; simp at h
theorem amounts_zero (t : Tot) (s : SumS) (x : Ent) (h : (amountsP t s x).2.2 = 0) : (amountsP t s x).1 = ⟨t.energy + x.energy, t.cost + x.cost, t.many + 1⟩ ∧ (amountsP t s x).2.1 = { s with energy := s.energy + x.energy, cost := s.cost + x.cost } := by
  unfold amountsP max4 at h
  dsimp only at h
  have a1 := (sumP_in t.energy x.energy).2.1
  have a2 := (sumP_in t.cost x.cost).2.1
  have a3 := (sumP_in s.energy x.energy).2.1
  have a4 := (sumP_in s.cost x.cost).2.1
  unfold amountsP
  dsimp only
  rw [sumP_two _ _ (by omega), sumP_two _ _ (by omega), sumP_two _ _ (by omega), sumP_two _ _ (by omega)]
  exact ⟨rfl, rfl⟩
/-- What an entry that is added, no seal, changes. -/
structure Delta (t : Tot) (s : SumS) (T : Tot) (S : SumS) : Prop where
  e : T.energy - t.energy = S.energy - s.energy
  c : T.cost - t.cost = S.cost - s.cost
  n : T.many - t.many = (S.intervals + S.corrected) - (s.intervals + s.corrected)
  f : s.flagged ≤ s.intervals → S.flagged ≤ S.intervals
  a : sumN S = sumN s + 1
theorem nextP_delta (b : Bk) (x : Ent) (hx : x.ok) (h : (nextP b x).2.2 = 0) (hk : x.kind ≠ 5) : Delta (b.totAt x.meter.toNat x.band.toNat) (b.sumAt x.meter.toNat) (nextP b x).1 (nextP b x).2.1 := by
  have he := nextP_e b x h
  obtain ⟨hk15, _⟩ := okE_in x hx he
  generalize hT : b.totAt x.meter.toNat x.band.toNat = t
  generalize hS : b.sumAt x.meter.toNat = s
  unfold nextP at h ⊢
  rw [hT, hS] at h ⊢
  rw [if_neg (by simp [he])] at h ⊢
  by_cases k2 : x.kind = 2
  · simp only [if_pos k2] at h ⊢
    exact ⟨by dsimp only; omega, by dsimp only; omega, by dsimp only; omega, fun h => h, by unfold sumN; dsimp only; omega⟩
  by_cases k3 : x.kind = 3
  · simp only [if_neg k2, if_pos k3] at h ⊢
    exact ⟨by dsimp only; omega, by dsimp only; omega, by dsimp only; omega, fun h => h, by unfold sumN; dsimp only; omega⟩
  by_cases k1 : x.kind = 1
  · simp only [if_neg k2, if_neg k3, if_pos k1] at h ⊢
    obtain ⟨e1, e2⟩ := amounts_zero _ _ _ h
    rw [e1, e2]
    exact ⟨by dsimp only; omega, by dsimp only; omega, by dsimp only; omega, fun h => by dsimp only; omega, by unfold sumN; dsimp only; omega⟩
  have k4 : x.kind = 4 := by omega
  simp only [if_neg k2, if_neg k3, if_neg k1, if_pos k4] at h ⊢
  obtain ⟨e1, e2⟩ := amounts_zero _ _ _ h
  rw [e1, e2]
  exact ⟨by dsimp only; omega, by dsimp only; omega, by dsimp only; omega, fun h => h, by unfold sumN; dsimp only; omega⟩
theorem aS_seal (b : Bk) (n s : Int) : ∀ j, aS ({ b with many := n, seals := s } : Bk) j = aS b j + (s - b.seals) := by
  intro j
  induction j with
  | zero => simp [aS]; omega
  | succ j ih =>
    unfold aS
    rw [ih]
    have : ({ b with many := n, seals := s } : Bk).sumAt j = b.sumAt j := rfl
    rw [this]; omega
theorem tS_seal (f : Tot → Int) (b : Bk) (n s : Int) (m : Nat) : ∀ j, tS f ({ b with many := n, seals := s } : Bk) m j = tS f b m j := by
  intro j
  induction j with
  | zero => rfl
  | succ j ih => unfold tS; rw [ih]; rfl
theorem SumInv.add {K : Int} {b : Bk} (hb : b.ok K) (hi : SumInv b) (x : Ent) (hx : x.ok) : SumInv (addP b x).1 := by
  unfold addP
  by_cases h : (nextP b x).2.2 = 0
  · rw [if_neg (by simp [h])]
    by_cases k5 : x.kind = 5
    · rw [if_pos k5]
      refine ⟨fun m hm => ?_, fun m hm => ?_, fun m hm => ?_, fun m hm => ?_, ?_⟩
      · rw [tS_seal]; exact hi.e m hm
      · rw [tS_seal]; exact hi.c m hm
      · rw [tS_seal]; exact hi.n m hm
      · exact hi.f m hm
      · rw [aS_seal, hi.a]; dsimp only; omega
    · rw [if_neg k5]
      have he := nextP_e b x h
      obtain ⟨_, hm1, hk1, _⟩ := okE_in x hx he
      have D := nextP_delta b x hx h k5
      generalize nextP b x = q at D
      obtain ⟨T, S, E⟩ := q
      dsimp only at D ⊢
      generalize b.ofm.set x.meter.toNat (b.ofAt x.meter.toNat + 1) = o
      have hM : x.meter.toNat < 64 := by omega
      have hK : x.band.toNat < 8 := by omega
      generalize x.meter.toNat = m at D hM ⊢
      generalize x.band.toNat = k at D hK ⊢
      show SumInv (b.puts m k T S o (b.many + 1))
      refine ⟨fun m' hm => ?_, fun m' hm => ?_, fun m' hm => ?_, fun m' hm => ?_, ?_⟩
      · rw [puts_tS _ hb m k hM hK T S o _ m' 8 (by omega), puts_sum hb m k hM T S o _ m', hi.e m' hm]
        by_cases h1 : m' = m
        · subst h1; rw [if_pos ⟨rfl, by omega⟩, if_pos rfl]; have := D.e; omega
        · rw [if_neg (by omega), if_neg h1]; omega
      · rw [puts_tS _ hb m k hM hK T S o _ m' 8 (by omega), puts_sum hb m k hM T S o _ m', hi.c m' hm]
        by_cases h1 : m' = m
        · subst h1; rw [if_pos ⟨rfl, by omega⟩, if_pos rfl]; have := D.c; omega
        · rw [if_neg (by omega), if_neg h1]; omega
      · rw [puts_tS _ hb m k hM hK T S o _ m' 8 (by omega), puts_sum hb m k hM T S o _ m', hi.n m' hm]
        by_cases h1 : m' = m
        · subst h1; rw [if_pos ⟨rfl, by omega⟩, if_pos rfl]; have := D.n; omega
        · rw [if_neg (by omega), if_neg h1]; omega
      · rw [puts_sum hb m k hM T S o _ m']
        by_cases h1 : m' = m
        · subst h1; rw [if_pos rfl]; exact D.f (hi.f _ hm)
        · rw [if_neg h1]; exact hi.f _ hm
      · rw [puts_aS hb m k hM T S o _ 64, if_pos hM, hi.a]
        have := D.a
        show _ = b.many + 1
        omega
  · rw [if_pos h]; exact hi
theorem SumInv.run (es : List Ent) (h : ∀ e ∈ es, e.ok) : SumInv (runB es) := by
  have key : ∀ (l : List Ent) (b : Bk) (K : Int), 0 ≤ K → b.ok K → SumInv b → (∀ e ∈ l, e.ok) → SumInv (l.foldl (fun b x => (addP b x).1) b) := by
    intro l
    induction l with
    | nil => intro b K _ _ hi _; exact hi
    | cons x l ih =>
      intro b K hK hb hi hl
      exact ih _ (K + 1) (by omega) (addP_ok hK hb x (hl x (by simp))) (hi.add hb x (hl x (by simp))) (fun e he => hl e (by simp [he]))
  exact key es Bk.zero 0 (by omega) Bk.zero_ok SumInv.zero h
end Go.Proofs.YtjcpgnachkhjaaaDoor
