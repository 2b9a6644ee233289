/- What the document's ledger computes over entries that were added: the book's, in plain Lean. No program in sight. -/
import Derived.Test.YtjcpgnachkhjaaaDoorLedPartsP
import Derived.Test.YtjcpgnachkhjaaaDoorLedTakesP
import Derived.Test.YtjcpgnachkhjaaaDoorLedTot
import Derived.Test.YtjcpgnachkhjaaaDoorLedMet
namespace Go.Proofs.YtjcpgnachkhjaaaDoor
open Go.RowKit
set_option linter.unusedVariables false

def addsB (x : Ent) : Bool := decide (x.kind = 1) || decide (x.kind = 4)
def totJ (t : Tot) (x : Ent) (m k : Int) : Tot := if addsB x = true ∧ x.meter = m ∧ x.band = k then ⟨t.energy + x.energy, t.cost + x.cost, t.many + 1⟩ else t
def kindJ (s : SumS) (x : Ent) : SumS :=
  if x.kind = 1 then { s with intervals := s.intervals + 1, last := x, flagged := if 0 < x.flags then s.flagged + 1 else s.flagged }
  else if x.kind = 2 then { s with suspects := s.suspects + 1 }
  else if x.kind = 3 then { s with replaced := s.replaced + 1 }
  else if x.kind = 4 then { s with corrected := s.corrected + 1 } else s
def sumJ (s : SumS) (x : Ent) (m : Int) : SumS := if x.kind = 5 ∨ x.meter ≠ m then s else kindJ { s with energy := s.energy + x.energy, cost := s.cost + x.cost } x
def beyB (n : Int) : Bool := decide (4611686018427387904 < n) || decide (n < -4611686018427387904)
/-- What May of the document answers. -/
def mayR (b : Bk) (x : Ent) : Int :=
  if mayE x = false then 150 else if addsB x = false then 0
  else if (beyB (IntKind.i64.wrap ((b.totI x.meter x.band).energy + x.energy)) || beyB (IntKind.i64.wrap ((b.totI x.meter x.band).cost + x.cost)) || beyB (IntKind.i64.wrap ((b.sumI x.meter).energy + x.energy)) || beyB (IntKind.i64.wrap ((b.sumI x.meter).cost + x.cost))) = true then 10 else 0

theorem addP_two (b : Bk) (x : Ent) : (addP b x).2 = (nextP b x).2.2 := by
  unfold addP
  by_cases h1 : (nextP b x).2.2 ≠ 0
  · rw [if_pos h1]
  · have : (nextP b x).2.2 = 0 := by omega
    rw [if_neg h1, this]
    split <;> rfl
theorem zeroish (x : Ent) (hx : x.ok) (h : okE x = true) (hk : x.kind = 2 ∨ x.kind = 3) : x.energy = 0 ∧ x.cost = 0 := by
  rw [okE_may x hx] at h
  unfold mayE at h
  rcases hk with hk | hk
  · simp [hk] at h; omega
  · simp [hk] at h; omega
theorem nextP_tot (b : Bk) (x : Ent) (h : (nextP b x).2.2 = 0) : (nextP b x).1 = if addsB x = true then ⟨(b.totAt x.meter.toNat x.band.toNat).energy + x.energy, (b.totAt x.meter.toNat x.band.toNat).cost + x.cost, (b.totAt x.meter.toNat x.band.toNat).many + 1⟩ else b.totAt x.meter.toNat x.band.toNat := by
  have he := nextP_e b x h
  unfold nextP at h ⊢
  rw [if_neg (by simp [he])] at h ⊢
  by_cases h2 : x.kind = 2
  · rw [if_pos h2, if_neg (by simp [addsB, h2])]
  rw [if_neg h2] at h ⊢
  by_cases h3 : x.kind = 3
  · rw [if_pos h3, if_neg (by simp [addsB, h3])]
  rw [if_neg h3] at h ⊢
  by_cases h1 : x.kind = 1
  · rw [if_pos h1] at h ⊢
    rw [if_pos (by simp [addsB, h1])]
    exact (amounts_zero _ _ _ h).1
  rw [if_neg h1] at h ⊢
  by_cases h4 : x.kind = 4
  · rw [if_pos h4] at h ⊢
    rw [if_pos (by simp [addsB, h4])]
    exact (amounts_zero _ _ _ h).1
  · rw [if_neg h4, if_neg (by simp [addsB, h1, h4])]
theorem nextP_sum (b : Bk) (x : Ent) (hx : x.ok) (h : (nextP b x).2.2 = 0) (h5 : x.kind ≠ 5) : (nextP b x).2.1 = kindJ { b.sumAt x.meter.toNat with energy := (b.sumAt x.meter.toNat).energy + x.energy, cost := (b.sumAt x.meter.toNat).cost + x.cost } x := by
  have he := nextP_e b x h
  obtain ⟨hk, _, _, _, _, hfl⟩ := okE_in x hx he
  unfold nextP at h ⊢
  unfold kindJ
  rw [if_neg (by simp [he])] at h ⊢
  by_cases h2 : x.kind = 2
  · obtain ⟨z1, z2⟩ := zeroish x hx he (.inl h2)
    rw [if_pos h2, if_neg (by omega), if_pos h2, z1, z2]; simp
  rw [if_neg h2] at h ⊢
  by_cases h3 : x.kind = 3
  · obtain ⟨z1, z2⟩ := zeroish x hx he (.inr h3)
    rw [if_pos h3, if_neg (by omega), if_neg h2, if_pos h3, z1, z2]; simp
  rw [if_neg h3] at h ⊢
  by_cases h1 : x.kind = 1
  · rw [if_pos h1] at h ⊢
    rw [if_pos h1, (amounts_zero _ _ _ h).2]
    by_cases hf : 0 < x.flags
    · rw [if_pos hf, show min x.flags 1 = 1 by omega]
    · rw [if_neg hf, show min x.flags 1 = 0 by omega, Int.add_zero]
  rw [if_neg h1] at h ⊢
  by_cases h4 : x.kind = 4
  · rw [if_pos h4] at h ⊢
    rw [if_neg h1, if_neg h2, if_neg h3, if_pos h4, (amounts_zero _ _ _ h).2]
  · omega
theorem step_tot {K : Int} {b : Bk} (hb : b.ok K) (x : Ent) (hx : x.ok) (h : (addP b x).2 = 0) (m k : Int) : (addP b x).1.totI m k = totJ (b.totI m k) x m k := by
  rw [addP_two] at h
  have he := nextP_e b x h
  obtain ⟨_, hm, hb', _⟩ := okE_in x hx he
  rw [addP_put, if_neg (by simp [h])]
  unfold totJ Bk.totI
  by_cases hr : (0 ≤ m ∧ m ≤ 63) ∧ 0 ≤ k ∧ k ≤ 7
  · rw [if_pos hr, if_pos hr]
    by_cases h5 : x.kind = 5
    · rw [if_pos h5, if_neg (by simp [addsB, h5])]; rfl
    · rw [if_neg h5, puts_tot hb _ _ (by omega) (by omega) _ _ _ _ _ _ (by omega), nextP_tot b x h]
      by_cases hq : m.toNat = x.meter.toNat ∧ k.toNat = x.band.toNat
      · rw [if_pos hq, hq.1, hq.2]
        by_cases ha : addsB x = true
        · rw [if_pos ha, if_pos ⟨ha, by omega, by omega⟩]
        · rw [if_neg ha, if_neg (fun q => ha q.1)]
      · rw [if_neg hq, if_neg (fun q => hq ⟨by omega, by omega⟩)]
  · rw [if_neg hr, if_neg hr, if_neg (fun q => hr (by omega))]
theorem step_sum {K : Int} {b : Bk} (hb : b.ok K) (x : Ent) (hx : x.ok) (h : (addP b x).2 = 0) (m : Int) : (addP b x).1.sumI m = sumJ (b.sumI m) x m := by
  rw [addP_two] at h
  have he := nextP_e b x h
  obtain ⟨_, hm, hb', _⟩ := okE_in x hx he
  rw [addP_put, if_neg (by simp [h])]
  unfold sumJ Bk.sumI
  by_cases hr : 0 ≤ m ∧ m ≤ 63
  · rw [if_pos hr, if_pos hr]
    by_cases h5 : x.kind = 5
    · rw [if_pos h5, if_pos (.inl h5)]; rfl
    · rw [if_neg h5, puts_sum hb _ _ (by omega), nextP_sum b x hx h h5]
      by_cases hq : m.toNat = x.meter.toNat
      · rw [if_pos hq, hq, if_neg (by omega)]
      · rw [if_neg hq, if_pos (by omega)]
  · rw [if_neg hr, if_neg hr, if_pos (by omega)]
theorem step_of {K : Int} {b : Bk} (hb : b.ok K) (x : Ent) (hx : x.ok) (h : (addP b x).2 = 0) (m : Nat) (hm : m < 64) : (addP b x).1.ofAt m = b.ofAt m + (if x.kind ≠ 5 ∧ x.meter = m then 1 else 0) := by
  rw [addP_two] at h
  have he := nextP_e b x h
  obtain ⟨_, hm', _⟩ := okE_in x hx he
  rw [addP_put, if_neg (by simp [h])]
  by_cases h5 : x.kind = 5
  · rw [if_pos h5, if_neg (fun q => q.1 h5)]; show b.ofAt m = _; omega
  · rw [if_neg h5]
    show ((b.ofm.set x.meter.toNat (b.ofAt x.meter.toNat + 1)).getD m 0) = _
    rw [getD_set _ _ _ _ _ (by rw [hb.ol]; omega)]
    by_cases hq : m = x.meter.toNat
    · rw [if_pos hq, if_pos ⟨h5, by omega⟩, ← hq]
    · rw [if_neg hq, if_neg (fun q => hq (by omega))]; show b.ofAt m = _; omega
theorem bey_sum (a c : Int) (ha : amt a) (hc : amt c) : beyB (IntKind.i64.wrap (a + c)) = decide ((sumP a c).2 = 10) ∧ ((sumP a c).2 = 0 ∨ (sumP a c).2 = 10) := by
  unfold amt at ha hc
  unfold sumP beyB
  by_cases h : -4611686018427387904 ≤ a + c ∧ a + c ≤ 4611686018427387904
  · rw [if_pos h]
    refine ⟨?_, .inl rfl⟩
    have e : IntKind.i64.wrap (a + c) = a + c := by simp only [IntKind.wrap_i64]; omega
    rw [e]
    simp; omega
  · rw [if_neg h]
    refine ⟨?_, .inr rfl⟩
    have : 4611686018427387904 < IntKind.i64.wrap (a + c) ∨ IntKind.i64.wrap (a + c) < -4611686018427387904 := by simp only [IntKind.wrap_i64]; omega
    simpa using this
theorem max4_zt (a b c d : Int) (ha : a = 0 ∨ a = 10) (hb : b = 0 ∨ b = 10) (hc : c = 0 ∨ c = 10) (hd : d = 0 ∨ d = 10) : max4 a b c d = if (decide (a = 10) || decide (b = 10) || decide (c = 10) || decide (d = 10)) = true then 10 else 0 := by
  rcases ha with rfl | rfl <;> rcases hb with rfl | rfl <;> rcases hc with rfl | rfl <;> rcases hd with rfl | rfl <;> decide
theorem mayR_eq {K : Int} {b : Bk} (hb : b.ok K) (x : Ent) (hx : x.ok) : mayR b x = (nextP b x).2.2 := by
  have hok := okE_may x hx
  unfold mayR nextP
  rw [← hok]
  by_cases he : okE x = false
  · rw [if_pos he, if_pos he]
  have he' : okE x = true := by simpa using he
  obtain ⟨hk, hm, hbd, hen, hco, _⟩ := okE_in x hx he'
  have ht : b.totI x.meter x.band = b.totAt x.meter.toNat x.band.toNat := by unfold Bk.totI; rw [if_pos ⟨hm, hbd⟩]
  have hs : b.sumI x.meter = b.sumAt x.meter.toNat := by unfold Bk.sumI; rw [if_pos hm]
  have hto := hb.totAt x.meter.toNat x.band.toNat (by omega) (by omega)
  have hso := hb.sumAt x.meter.toNat (by omega)
  rw [if_neg he, if_neg he, ht, hs]
  generalize b.totAt x.meter.toNat x.band.toNat = t at hto ⊢
  generalize b.sumAt x.meter.toNat = s at hso ⊢
  obtain ⟨t1, t2, _⟩ := hto
  obtain ⟨s1, s2, _⟩ := hso
  obtain ⟨e1, z1⟩ := bey_sum t.energy x.energy t1 hen
  obtain ⟨e2, z2⟩ := bey_sum t.cost x.cost t2 hco
  obtain ⟨e3, z3⟩ := bey_sum s.energy x.energy s1 hen
  obtain ⟨e4, z4⟩ := bey_sum s.cost x.cost s2 hco
  rw [e1, e2, e3, e4]
  by_cases h2 : x.kind = 2
  · rw [if_pos h2, if_pos (by simp [addsB, h2])]
  by_cases h3 : x.kind = 3
  · rw [if_neg h2, if_pos h3, if_pos (by simp [addsB, h3])]
  by_cases h1 : x.kind = 1
  · rw [if_neg h2, if_neg h3, if_pos h1, if_neg (by simp [addsB, h1])]
    exact (max4_zt _ _ _ _ z1 z2 z3 z4).symm
  by_cases h4 : x.kind = 4
  · rw [if_neg h2, if_neg h3, if_neg h1, if_pos h4, if_neg (by simp [addsB, h4])]
    exact (max4_zt _ _ _ _ z1 z2 z3 z4).symm
  · rw [if_neg h2, if_neg h3, if_neg h1, if_neg h4, if_pos (by simp [addsB, h1, h4])]

/-- Entries that were added, each of them. -/
def AddedE (es : List Ent) : Prop := (∀ e ∈ es, e.ok) ∧ ∀ (j : Nat) (x : Ent), es[j]? = some x → (addP (runB (es.take j)) x).2 = 0
theorem AddedE.book {es : List Ent} (h : AddedE es) (i : Nat) (hi : i ≤ es.length) : (runB (es.take i)).ok i := runB_ok_take es h.1 i hi
theorem AddedE.tot {es : List Ent} (h : AddedE es) (i : Nat) (x : Ent) (hx : es[i]? = some x) (m k : Int) : (runB (es.take (i + 1))).totI m k = totJ ((runB (es.take i)).totI m k) x m k := by
  have hi := (List.getElem?_eq_some_iff.1 hx).1
  rw [runB_take es i x hx]
  exact step_tot (h.book i (by omega)) x (h.1 x (List.mem_of_getElem? hx)) (h.2 i x hx) m k
theorem AddedE.sum {es : List Ent} (h : AddedE es) (i : Nat) (x : Ent) (hx : es[i]? = some x) (m : Int) : (runB (es.take (i + 1))).sumI m = sumJ ((runB (es.take i)).sumI m) x m := by
  have hi := (List.getElem?_eq_some_iff.1 hx).1
  rw [runB_take es i x hx]
  exact step_sum (h.book i (by omega)) x (h.1 x (List.mem_of_getElem? hx)) (h.2 i x hx) m
theorem AddedE.ofm {es : List Ent} (h : AddedE es) (i : Nat) (x : Ent) (hx : es[i]? = some x) (m : Nat) (hm : m < 64) : (runB (es.take (i + 1))).ofAt m = (runB (es.take i)).ofAt m + (if x.kind ≠ 5 ∧ x.meter = m then 1 else 0) := by
  have hi := (List.getElem?_eq_some_iff.1 hx).1
  rw [runB_take es i x hx]
  exact step_of (h.book i (by omega)) x (h.1 x (List.mem_of_getElem? hx)) (h.2 i x hx) m hm
theorem AddedE.nil : AddedE [] := ⟨fun e h => absurd h (by simp), fun j x h => absurd h (by simp)⟩
theorem AddedE.snoc {es : List Ent} (h : AddedE es) (x : Ent) (hx : x.ok) (h0 : (addP (runB es) x).2 = 0) : AddedE (es ++ [x]) := by
  refine ⟨fun e he => ?_, fun j y hy => ?_⟩
  · rcases List.mem_append.1 he with h1 | h1
    · exact h.1 e h1
    · rw [List.mem_singleton.1 h1]; exact hx
  · rcases Nat.lt_or_ge j es.length with hj | hj
    · rw [List.getElem?_append_left hj] at hy
      rw [List.take_append_of_le_length (by omega)]
      exact h.2 j y hy
    · rw [List.getElem?_append_right hj] at hy
      have hj2 := (List.getElem?_eq_some_iff.1 hy).1
      simp at hj2
      obtain rfl : j = es.length := by omega
      simp at hy
      subst hy
      rw [List.take_left']
      · exact h0
      · rfl
/-- The entries of a list that a book takes, one behind the other. -/
def takenE (es : List Ent) : List Ent := es.foldl (fun acc x => if (addP (runB acc) x).2 = 0 then acc ++ [x] else acc) []
theorem takenE_snoc (es : List Ent) (x : Ent) : takenE (es ++ [x]) = if (addP (runB (takenE es)) x).2 = 0 then takenE es ++ [x] else takenE es := by
  unfold takenE
  rw [List.foldl_append]; rfl
theorem taken_added (es : List Ent) (hes : ∀ e ∈ es, e.ok) : ∀ n, n ≤ es.length → AddedE (takenE (es.take n)) ∧ runB (takenE (es.take n)) = runB (es.take n) ∧ (takenE (es.take n)).length ≤ n ∧ (runB (es.take n)).many = (takenE (es.take n)).length := by
  intro n
  induction n with
  | zero => intro _; rw [List.take_zero]; exact ⟨AddedE.nil, rfl, Nat.le_refl _, rfl⟩
  | succ n ih =>
    intro hn
    obtain ⟨h1, h2, h3, h4⟩ := ih (by omega)
    have hx : es[n]? = some es[n] := List.getElem?_eq_getElem (by omega)
    have hxo : (es[n]).ok := hes _ (List.getElem_mem _)
    have e1 : es.take (n + 1) = es.take n ++ [es[n]] := by rw [List.take_add_one, hx]; rfl
    rw [e1, takenE_snoc, runB_snoc]
    by_cases h0 : (addP (runB (takenE (es.take n))) es[n]).2 = 0
    · rw [if_pos h0, runB_snoc, h2]
      refine ⟨h1.snoc _ hxo h0, rfl, by rw [List.length_append]; simp; omega, ?_⟩
      rw [h2] at h0
      rw [addP_two] at h0
      rw [addP_put, if_neg (by simp [h0])]
      rw [List.length_append]
      split
      · show (runB (es.take n)).many + 1 = _; rw [h4]; simp
      · show (runB (es.take n)).many + 1 = _; rw [h4]; simp
    · rw [if_neg h0, h2]
      rw [h2, addP_two] at h0
      have e2 : (addP (runB (es.take n)) es[n]).1 = runB (es.take n) := by rw [addP_put, if_pos h0]
      rw [e2]
      exact ⟨h1, rfl, by omega, h4⟩
end Go.Proofs.YtjcpgnachkhjaaaDoor
