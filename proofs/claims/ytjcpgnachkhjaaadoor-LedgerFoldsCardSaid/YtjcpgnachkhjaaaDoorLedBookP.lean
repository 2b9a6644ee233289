/- A book stays one, in plain Lean. -/
import Derived.Test.YtjcpgnachkhjaaaDoorLedBook
namespace Go.Proofs.YtjcpgnachkhjaaaDoor
open Go.RowKit

theorem sumP_amt (a b : Int) : amt (sumP a b).1 := by
  unfold sumP amt
  split <;> simp <;> omega
theorem amountsP_ok {K : Int} {t : Tot} {s : SumS} (x : Ent) (ht : t.ok K) (hs : s.ok K) : (amountsP t s x).1.ok (K + 1) ∧ (amountsP t s x).2.1.ok K := by
  obtain ⟨t1, t2, t3, t4⟩ := ht
  obtain ⟨s1, s2, s3⟩ := hs
  exact ⟨⟨sumP_amt _ _, sumP_amt _ _, by show 0 ≤ t.many + 1; omega, by show t.many + 1 ≤ K + 1; omega⟩, sumP_amt _ _, sumP_amt _ _, s3⟩
theorem nextP_ok {K : Int} (hK : 0 ≤ K) {b : Bk} (hb : b.ok K) (x : Ent) (hx : x.ok) : (nextP b x).1.ok (K + 1) ∧ (nextP b x).2.1.ok (K + 1) := by
  unfold nextP
  split
  · exact ⟨Tot.zero_ok _ (by omega), SumS.zero_ok _ (by omega)⟩
  · rename_i h
    have h : okE x = true := by simpa using h
    obtain ⟨h1, h2, h3, h4, h5, h6⟩ := okE_in x hx h
    have ht : (b.totAt x.meter.toNat x.band.toNat).ok K := hb.totAt _ _ (by omega) (by omega)
    have hs : (b.sumAt x.meter.toNat).ok K := hb.sumAt _ (by omega)
    have ht1 := ht.mono (show K ≤ K + 1 by omega)
    generalize b.totAt x.meter.toNat x.band.toNat = t at ht ht1 ⊢
    generalize b.sumAt x.meter.toNat = s at hs ⊢
    have hs0 := hs
    obtain ⟨s1, s2, ⟨s3, s3'⟩, ⟨s4, s4'⟩, ⟨s5, s5'⟩, ⟨s6, s6'⟩, ⟨s7, s7'⟩, s8⟩ := hs
    split
    · refine ⟨ht1, s1, s2, ⟨?_, ?_⟩, ⟨?_, ?_⟩, ⟨?_, ?_⟩, ⟨?_, ?_⟩, ⟨?_, ?_⟩, s8⟩ <;> dsimp only <;> omega
    split
    · refine ⟨ht1, s1, s2, ⟨?_, ?_⟩, ⟨?_, ?_⟩, ⟨?_, ?_⟩, ⟨?_, ?_⟩, ⟨?_, ?_⟩, s8⟩ <;> dsimp only <;> omega
    split
    · have := amountsP_ok (K := K + 1) (s := { s with last := x, intervals := s.intervals + 1, flagged := s.flagged + min x.flags 1 }) x ht1
        (by refine ⟨s1, s2, ⟨?_, ?_⟩, ⟨?_, ?_⟩, ⟨?_, ?_⟩, ⟨?_, ?_⟩, ⟨?_, ?_⟩, hx⟩ <;> dsimp only <;> omega)
      exact ⟨(amountsP_ok x ht hs0).1, this.2⟩
    split
    · have := amountsP_ok (K := K + 1) (s := { s with corrected := s.corrected + 1 }) x ht1
        (by refine ⟨s1, s2, ⟨?_, ?_⟩, ⟨?_, ?_⟩, ⟨?_, ?_⟩, ⟨?_, ?_⟩, ⟨?_, ?_⟩, s8⟩ <;> dsimp only <;> omega)
      exact ⟨(amountsP_ok x ht hs0).1, this.2⟩
    · exact ⟨ht1, hs0.mono (by omega)⟩
theorem nextP_e (b : Bk) (x : Ent) (h : (nextP b x).2.2 = 0) : okE x = true := by
  cases hk : okE x with
  | true => rfl
  | false =>
    unfold nextP at h
    rw [if_pos hk] at h
    simp at h
theorem addP_ok {K : Int} (hK : 0 ≤ K) {b : Bk} (hb : b.ok K) (x : Ent) (hx : x.ok) : (addP b x).1.ok (K + 1) := by
  have hn := nextP_ok hK hb x hx
  have hb1 := hb.mono (show K ≤ K + 1 by omega)
  unfold addP
  split
  · exact hb1
  · rename_i he
    have hk := nextP_e b x (by simpa using he)
    obtain ⟨h1, h2, h3, _⟩ := okE_in x hx hk
    have hm := hb.m
    have hs := hb.e
    split
    · exact { hb1 with m := ⟨by show 0 ≤ _ + 1; omega, by show _ + 1 ≤ _ + 1; omega⟩, e := ⟨by show 0 ≤ _ + 1; omega, by show _ + 1 ≤ _ + 1; omega⟩ }
    · refine { tl := by show (List.set _ _ _).length = _; rw [List.length_set]; exact hb.tl, sl := by show (List.set _ _ _).length = _; rw [List.length_set]; exact hb.sl, ol := by show (List.set _ _ _).length = _; rw [List.length_set]; exact hb.ol, t := fun t ht => ?_, s := fun s hs => ?_, o := fun n hn => ?_, m := ⟨by show 0 ≤ _ + 1; omega, by show _ + 1 ≤ _ + 1; omega⟩, e := hb1.e }
      · rcases List.mem_or_eq_of_mem_set ht with h | h
        · exact hb1.t t h
        · rw [h]; exact hn.1
      · rcases List.mem_or_eq_of_mem_set hs with h | h
        · exact hb1.s s h
        · rw [h]; exact hn.2
      · rcases List.mem_or_eq_of_mem_set hn with h | h
        · exact hb1.o n h
        · have := hb.ofAt x.meter.toNat (by omega)
          rw [h]; omega
end Go.Proofs.YtjcpgnachkhjaaaDoor
