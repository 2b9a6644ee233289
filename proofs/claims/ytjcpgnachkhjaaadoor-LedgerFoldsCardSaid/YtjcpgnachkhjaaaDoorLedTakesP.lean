/- LedgerTakes: the plain law: a correction that takes an interval back. No program in sight. -/
import Derived.Test.YtjcpgnachkhjaaaDoorLedSumsP
import Derived.Test.YtjcpgnachkhjaaaDoorLedTot
namespace Go.Proofs.YtjcpgnachkhjaaaDoor
open Go.RowKit
set_option linter.unusedVariables false
/-- The correction that takes an interval back. -/
def backE (x : Ent) : Ent := ⟨4, x.meter, 0, -x.energy, x.band, 0, -x.cost, 0, 0, 0, List.replicate 32 0⟩
theorem backE_ok (x : Ent) (hx : x.ok) (h1 : okE x = true) : (backE x).ok := by
  obtain ⟨_, hm, hk, he, hc, _⟩ := okE_in x hx h1
  unfold amt at he hc
  refine ⟨rfl, hx.2.1, rfl, ?_, hx.2.2.2.2.1, rfl, ?_, rfl, rfl, rfl, rfl, fun y hy => ?_⟩
  · show IntKind.i64.wrap (-x.energy) = -x.energy; simp only [IntKind.wrap_i64]; omega
  · show IntKind.i64.wrap (-x.cost) = -x.cost; simp only [IntKind.wrap_i64]; omega
  · have := List.eq_of_mem_replicate hy; omega
theorem backE_may (x : Ent) (hx : x.ok) (h1 : okE x = true) : okE (backE x) = true := by
  rw [okE_may _ (backE_ok x hx h1)]
  obtain ⟨_, hm, hk, he, hc, _⟩ := okE_in x hx h1
  unfold amt at he hc
  unfold mayE backE
  simp
  omega
theorem sumP_fit (a b : Int) (h : amt (a + b)) : sumP a b = (a + b, 0) := by
  unfold sumP; unfold amt at h; rw [if_pos h]
/-- What an interval that is added makes. -/
theorem add_int {K : Int} {b : Bk} (hb : b.ok K) (x : Ent) (hx : x.ok) (hk : x.kind = 1) (h : (addP b x).2 = 0) :
    okE x = true ∧ (addP b x).1 = b.puts x.meter.toNat x.band.toNat ⟨(b.totAt x.meter.toNat x.band.toNat).energy + x.energy, (b.totAt x.meter.toNat x.band.toNat).cost + x.cost, (b.totAt x.meter.toNat x.band.toNat).many + 1⟩
      { b.sumAt x.meter.toNat with last := x, intervals := (b.sumAt x.meter.toNat).intervals + 1, flagged := (b.sumAt x.meter.toNat).flagged + min x.flags 1, energy := (b.sumAt x.meter.toNat).energy + x.energy, cost := (b.sumAt x.meter.toNat).cost + x.cost } (b.ofm.set x.meter.toNat (b.ofAt x.meter.toNat + 1)) (b.many + 1) := by
  have h0 : (nextP b x).2.2 = 0 := by
    unfold addP at h
    by_cases h1 : (nextP b x).2.2 = 0
    · exact h1
    · rw [if_pos h1] at h; exact h
  have he := nextP_e b x h0
  refine ⟨he, ?_⟩
  have hn : nextP b x = amountsP (b.totAt x.meter.toNat x.band.toNat) { b.sumAt x.meter.toNat with last := x, intervals := (b.sumAt x.meter.toNat).intervals + 1, flagged := (b.sumAt x.meter.toNat).flagged + min x.flags 1 } x := by
    unfold nextP
    rw [if_neg (by simp [he]), if_neg (by omega), if_neg (by omega), if_pos hk]
  unfold addP
  rw [if_neg (by simp [h0]), if_neg (by omega)]
  rw [hn] at h0 ⊢
  obtain ⟨e1, e2⟩ := amounts_zero _ _ _ h0
  rw [e1, e2]
  rfl
theorem add_back {K : Int} {b : Bk} (hb : b.ok K) (x : Ent) (hx : x.ok) (he : okE x = true)
    (h1 : amt ((b.totAt x.meter.toNat x.band.toNat).energy + -x.energy)) (h2 : amt ((b.totAt x.meter.toNat x.band.toNat).cost + -x.cost)) (h3 : amt ((b.sumAt x.meter.toNat).energy + -x.energy)) (h4 : amt ((b.sumAt x.meter.toNat).cost + -x.cost)) :
    addP b (backE x) = (b.puts x.meter.toNat x.band.toNat ⟨(b.totAt x.meter.toNat x.band.toNat).energy + -x.energy, (b.totAt x.meter.toNat x.band.toNat).cost + -x.cost, (b.totAt x.meter.toNat x.band.toNat).many + 1⟩
      { b.sumAt x.meter.toNat with corrected := (b.sumAt x.meter.toNat).corrected + 1, energy := (b.sumAt x.meter.toNat).energy + -x.energy, cost := (b.sumAt x.meter.toNat).cost + -x.cost } (b.ofm.set x.meter.toNat (b.ofAt x.meter.toNat + 1)) (b.many + 1), 0) := by
  have hm := backE_may x hx he
  have hn : nextP b (backE x) = (⟨(b.totAt x.meter.toNat x.band.toNat).energy + -x.energy, (b.totAt x.meter.toNat x.band.toNat).cost + -x.cost, (b.totAt x.meter.toNat x.band.toNat).many + 1⟩,
      { b.sumAt x.meter.toNat with corrected := (b.sumAt x.meter.toNat).corrected + 1, energy := (b.sumAt x.meter.toNat).energy + -x.energy, cost := (b.sumAt x.meter.toNat).cost + -x.cost }, 0) := by
    unfold nextP
    rw [if_neg (by simp [hm]), if_neg (by show ¬ ((4 : Int) = 2); decide), if_neg (by show ¬ ((4 : Int) = 3); decide), if_neg (by show ¬ ((4 : Int) = 1); decide), if_pos (by rfl)]
    unfold amountsP
    show ((⟨(sumP _ (-x.energy)).1, (sumP _ (-x.cost)).1, _⟩ : Tot), _, max4 (sumP _ (-x.energy)).2 (sumP _ (-x.cost)).2 (sumP _ (-x.energy)).2 (sumP _ (-x.cost)).2) = _
    dsimp only [backE]
    rw [sumP_fit _ _ h1, sumP_fit _ _ h2, sumP_fit _ _ h3, sumP_fit _ _ h4]
    rfl
  unfold addP
  rw [hn]
  rw [if_neg (by simp), if_neg (by show ¬ ((4 : Int) = 5); decide)]
  rfl
/-- The law. -/
theorem takes_plain {K : Int} (hK : 0 ≤ K) {b : Bk} (hb : b.ok K) (x : Ent) (hx : x.ok) (hk : x.kind = 1) (h : (addP b x).2 = 0) :
    okE x = true ∧ (addP (addP b x).1 (backE x)).2 = 0 ∧
    ((addP (addP b x).1 (backE x)).1.totI x.meter x.band).energy = (b.totI x.meter x.band).energy ∧ ((addP (addP b x).1 (backE x)).1.totI x.meter x.band).cost = (b.totI x.meter x.band).cost ∧ ((addP (addP b x).1 (backE x)).1.totI x.meter x.band).many = (b.totI x.meter x.band).many + 2 ∧
    ((addP (addP b x).1 (backE x)).1.sumI x.meter).energy = (b.sumI x.meter).energy ∧ ((addP (addP b x).1 (backE x)).1.sumI x.meter).cost = (b.sumI x.meter).cost ∧ ((addP (addP b x).1 (backE x)).1.sumI x.meter).intervals = (b.sumI x.meter).intervals + 1 ∧ ((addP (addP b x).1 (backE x)).1.sumI x.meter).corrected = (b.sumI x.meter).corrected + 1 ∧
    ((addP (addP b x).1 (backE x)).1.sumI x.meter).last = x := by
  obtain ⟨he, e1⟩ := add_int hb x hx hk h
  obtain ⟨_, hm, hkk, _⟩ := okE_in x hx he
  have hM : x.meter.toNat < 64 := by omega
  have hB : x.band.toNat < 8 := by omega
  have hb1 := addP_ok hK hb x hx
  rw [e1] at hb1 ⊢
  have ht := hb.totAt x.meter.toNat x.band.toNat hM hB
  have hs := hb.sumAt x.meter.toNat hM
  have t1 := fun t s o n => puts_tot hb x.meter.toNat x.band.toNat hM hB t s o n x.meter.toNat x.band.toNat hB
  have s1 := fun t s o n => puts_sum hb x.meter.toNat x.band.toNat hM t s o n x.meter.toNat
  simp only [and_self, if_true] at t1 s1
  obtain ⟨T, hT⟩ : ∃ T : Tot, T = ⟨(b.totAt x.meter.toNat x.band.toNat).energy + x.energy, (b.totAt x.meter.toNat x.band.toNat).cost + x.cost, (b.totAt x.meter.toNat x.band.toNat).many + 1⟩ := ⟨_, rfl⟩
  obtain ⟨S, hS⟩ : ∃ S : SumS, S = { b.sumAt x.meter.toNat with last := x, intervals := (b.sumAt x.meter.toNat).intervals + 1, flagged := (b.sumAt x.meter.toNat).flagged + min x.flags 1, energy := (b.sumAt x.meter.toNat).energy + x.energy, cost := (b.sumAt x.meter.toNat).cost + x.cost } := ⟨_, rfl⟩
  rw [← hT, ← hS] at hb1 ⊢
  clear e1
  have t2 := t1 T S (b.ofm.set x.meter.toNat (b.ofAt x.meter.toNat + 1)) (b.many + 1)
  have s2 := s1 T S (b.ofm.set x.meter.toNat (b.ofAt x.meter.toNat + 1)) (b.many + 1)
  generalize b.puts x.meter.toNat x.band.toNat T S (b.ofm.set x.meter.toNat (b.ofAt x.meter.toNat + 1)) (b.many + 1) = b' at hb1 t2 s2 ⊢
  rw [hT] at t2
  rw [hS] at s2
  have t3 := fun t s o n => puts_tot hb1 x.meter.toNat x.band.toNat hM hB t s o n x.meter.toNat x.band.toNat hB
  have s3 := fun t s o n => puts_sum hb1 x.meter.toNat x.band.toNat hM t s o n x.meter.toNat
  simp only [and_self, if_true] at t3 s3
  have a1 := ht.1
  have a2 := ht.2.1
  have a3 := hs.1
  have a4 := hs.2.1
  have e2 := add_back hb1 x hx he (by rw [t2]; dsimp only; unfold amt at *; omega) (by rw [t2]; dsimp only; unfold amt at *; omega) (by rw [s2]; dsimp only; unfold amt at *; omega) (by rw [s2]; dsimp only; unfold amt at *; omega)
  rw [e2]
  unfold Bk.totI Bk.sumI
  rw [if_pos ⟨hm, hkk⟩, if_pos hm, if_pos ⟨hm, hkk⟩, if_pos hm]
  dsimp only
  rw [t3, s3, t2, s2]
  dsimp only
  exact ⟨he, rfl, by omega, by omega, by omega, by omega, by omega, rfl, rfl, rfl⟩
end Go.Proofs.YtjcpgnachkhjaaaDoor
