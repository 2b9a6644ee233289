/- kilowattref26.words: a point's words. -/
import Derived.Test.YtnnknnaimabehaaModWords
import Derived.Test.YtnnknnaimabehaaRegsLaws
import Derived.Test.YtnnknnaimabehaaRegsRefText
namespace Go.Proofs.Ytnnknnaimabehaa
open Go.RowKit
set_option linter.unusedVariables false
set_option maxRecDepth 100000
/-- What the document's words answer. -/
def RPost (w : World) (o : Option (List Int)) (e : Ending) (w' : World) : Prop := ∃ A n c, e = .returned (.tuple #[.slice A n c, .bool o.isSome]) ∧ (∀ l, o = some l → SlI w' w'.heap.size .u16 A n c l) ∧ Below w.heap.size w w'
theorem rpost_none {w w' : World} (hb : Below w.heap.size w w') {A : Option Addr} {n c : Nat} : RPost w none (.returned (.tuple #[.slice A n c, .bool false])) w' := ⟨A, n, c, rfl, (fun l h => by cases h), hb⟩
theorem rpost_some {w w' : World} (hb : Below w.heap.size w w') {A : Option Addr} {n c : Nat} {l : List Int} (h : SlI w' w'.heap.size .u16 A n c l) : RPost w (some l) (.returned (.tuple #[.slice A n c, .bool true])) w' := ⟨A, n, c, rfl, (fun l' h' => by injection h' with h'; rw [← h']; exact h), hb⟩
set_option maxHeartbeats 4000000 in
theorem rword_any (k m : Int) (v : ValP) (hp : ptB ⟨k, m⟩ = true) (hv : ValIn v) (w : World) : Calls Try.prog 27 #[.agg #[.int .i64 k, .int .i64 m], valV v] w (RPost w (ptWords ⟨k, m⟩ v)) := by
  obtain ⟨u, i, s⟩ := v
  obtain ⟨⟨h0, h1⟩, h2, h3⟩ := hv
  simp only at h0 h1 h2 h3
  unfold valV
  dsimp only
  obtain ⟨w1, hw1⟩ : ∃ W, (w.alloc (.cells #[.int .i64 k, .int .i64 m] 62)).alloc (.cells #[.int .u64 u, .int .i64 i, .string s] 60) = W := ⟨_, rfl⟩
  have hb1 : Below w.heap.size w w1 := by rw [← hw1]; exact ((Below.refl _ w).alloc (Nat.le_refl _) _).alloc (by simp) _
  have hP1 : Held w1 w.heap.size 62 #[.int .i64 k, .int .i64 m] := by rw [← hw1]; exact (Held.new w _ _).alloc _
  have hD1 : Held w1 (w.heap.size + 1) 60 #[.int .u64 u, .int .i64 i, .string s] := by
    rw [← hw1]
    have := Held.new (w.alloc (.cells #[.int .i64 k, .int .i64 m] 62)) 60 #[.int .u64 u, .int .i64 i, .string s]
    rw [World.size_alloc] at this
    exact this
  have p0 : w1.cell? ⟨w.heap.size, 0, none⟩ = some (.int .i64 k) := hP1.cell 0
  have p1 : w1.cell? ⟨w.heap.size, 1, none⟩ = some (.int .i64 m) := hP1.cell 1
  have d0 : w1.cell? ⟨w.heap.size + 1, 0, none⟩ = some (.int .u64 u) := hD1.cell 0
  have d1 : w1.cell? ⟨w.heap.size + 1, 1, none⟩ = some (.int .i64 i) := hD1.cell 1
  have d2 : w1.cell? ⟨w.heap.size + 1, 2, none⟩ = some (.string s) := hD1.cell 2
  clear hP1 hD1
  by_cases k3 : k = 3
  · subst k3
    have e0 : ptWords ⟨3, m⟩ ⟨u, i, s⟩ = textP m ⟨u, i, s⟩ := by unfold ptWords; rw [if_pos rfl]
    rw [e0]
    clear e0
    have HT := Lib.hid (reftext_any s m w1)
    by_cases hu : u = 0
    · subst hu
      by_cases hi : i = 0
      · subst hi
        obtain ⟨o, ho⟩ : ∃ o, textP m ⟨0, 0, s⟩ = o := ⟨_, rfl⟩
        have HO := Lib.hid ho
        rw [ho]
        clear ho
        go_in
        go_wp2_with fail
        refine HT.out.mono ?_
        intro e w2 hT
        rcases hT with ⟨hok, x, q, hk, rfl, hown, hb2⟩ | ⟨hno, rfl, hb2⟩
        · have hb2w := hb1.trans (hb2.mono hb1.size)
          obtain ⟨A, c, rfl, hs⟩ := SlI.of_own hown
          have e1 : textP m ⟨0, 0, s⟩ = some (txtL s q s.size) := by
            unfold textP
            rw [if_pos ⟨⟨rfl, rfl⟩, hok⟩]
            have : m.toNat = q := by omega
            rw [this]
          have h := HO.out.symm.trans e1
          subst h
          have HS := Lib.hid hs
          clear hok hk hs hown e1
          go_wp2_with fail
          go_ret2
          exact rpost_some hb2w HS.out
        · have hb2w := hb1.trans (hb2.mono hb1.size)
          have e1 : textP m ⟨0, 0, s⟩ = none := by unfold textP; rw [if_neg (fun h => hno h.2)]
          have h := HO.out.symm.trans e1
          subst h
          clear hno e1
          go_wp2_with fail
          go_ret2
          exact rpost_none hb2w
      · have e1 : textP m ⟨0, i, s⟩ = none := by unfold textP; rw [if_neg (fun h => hi h.1.2)]
        rw [e1]
        have ti : (i != 0) = true := by simpa using hi
        clear hi e1 HT
        go_in
        go_wp2
        go_ret2
        exact rpost_none hb1
    · have e1 : textP m ⟨u, i, s⟩ = none := by unfold textP; rw [if_neg (fun h => hu h.1.1)]
      rw [e1]
      have ti : (u != 0) = true := by simpa using hu
      clear hu e1 HT
      go_in
      go_wp2
      go_ret2
      exact rpost_none hb1
  · have t3 : (k == 3) = false := by simpa using k3
    by_cases k1 : k = 1
    · subst k1
      have e0 : ptWords ⟨1, m⟩ ⟨u, i, s⟩ = plainP m ⟨u, i, s⟩ := by unfold ptWords; rw [if_neg (show ¬ (1 : Int) = 3 by decide), if_neg (show ¬ (1 : Int) = 2 by decide)]
      rw [e0]
      clear e0 t3 k3
      by_cases hq : i = 0 ∧ s = empS
      · obtain ⟨rfl, rfl⟩ := hq
        have HW := Lib.hid (refwords_sl u m 1 h0 h1 w1)
        have hee : empS.toList.isEmpty = true := by rw [emp_eq]; exact decide_eq_true rfl
        have hpl : plainP m ⟨u, 0, empS⟩ = if wordsB u m 1 then some (wordsX u m 1) else none := by unfold plainP someW; simp
        rw [hpl]
        clear hpl
        unfold wordsE at HW
        cases hwb : wordsB u m 1
        all_goals
          rw [hwb] at HW
          simp only [Bool.false_eq_true, if_true, if_false] at HW ⊢
          clear hwb
          go_in
          go_wp2_with fail
          refine HW.out.mono ?_
          rintro e w2 ⟨A, n, c, rfl, hs, hb2⟩
          have hb2w := hb1.trans (hb2.mono hb1.size)
          have HS := Lib.hid hs
          clear hs
          go_wp2_with fail
          go_ret2
          first
            | exact rpost_none hb2w
            | exact rpost_some hb2w HS.out
      · have e1 : plainP m ⟨u, i, s⟩ = none := by unfold plainP; rw [decide_eq_false hq]; rfl
        rw [e1]
        clear e1
        by_cases hs : s = empS
        · have ti : (i != 0) = true := by simpa using (fun h => hq ⟨h, hs⟩)
          subst hs
          clear hq
          have hee : empS.toList.isEmpty = true := by rw [emp_eq]; exact decide_eq_true rfl
          go_in
          go_wp2
          go_ret2
          exact rpost_none hb1
        · have ts : s.toList.isEmpty = false := by rw [emp_eq]; exact decide_eq_false hs
          clear hq hs
          go_in
          go_wp2
          go_ret2
          exact rpost_none hb1
    · have t1 : (k == 1) = false := by simpa using k1
      have k2 : k = 2 := by
        rcases Classical.em (k = 2) with h | h
        · exact h
        · unfold ptB at hp
          rw [if_neg k3] at hp
          have := of_decide_eq_true hp
          dsimp only at this
          omega
      subst k2
      have e0 : ptWords ⟨2, m⟩ ⟨u, i, s⟩ = signedP m ⟨u, i, s⟩ := by unfold ptWords; rw [if_neg (show ¬ (2 : Int) = 3 by decide), if_pos rfl]
      rw [e0]
      clear e0 t3 k3 t1 k1
      by_cases hq : u = 0 ∧ s = empS
      · obtain ⟨rfl, rfl⟩ := hq
        have hee : empS.toList.isEmpty = true := by rw [emp_eq]; exact decide_eq_true rfl
        have HU := Lib.hid (uns_ref i m h2 h3)
        have hpl : signedP m ⟨0, i, empS⟩ = if unsB i m then some (wordsX (unsV i m) m 1) else none := by unfold signedP someW; simp
        rw [hpl]
        clear hpl
        unfold unsE at HU
        cases hub : unsB i m with
        | false =>
          rw [hub] at HU
          simp only [Bool.false_eq_true, if_false] at HU ⊢
          clear hub
          go_in
          go_wp2_with (go_at_call 42; refine (HU.out _).mono ?_; rintro e w' ⟨rfl, rfl⟩)
          go_ret2
          exact rpost_none hb1
        | true =>
          have hu1 := uns_words i m hub
          have hu2 := uns_in i m hub
          rw [hub] at HU
          simp only [if_true] at HU ⊢
          have HW := Lib.hid (refwords_sl (unsV i m) m 1 hu2.1 hu2.2 w1)
          unfold wordsE at HW
          rw [hu1] at HW
          simp only [if_true] at HW
          obtain ⟨U, hU⟩ : ∃ U, unsV i m = U := ⟨_, rfl⟩
          rw [hU] at HW HU ⊢
          clear hub hu1 hu2 hU
          go_in
          go_wp2_with (first | (go_at_call 42; refine (HU.out _).mono ?_; rintro e w' ⟨rfl, rfl⟩) | (go_at_call 41; refine HW.out.mono ?_; rintro e w2 ⟨A, n, c, rfl, hs, hb2⟩; have hb2w := hb1.trans (hb2.mono hb1.size)))
          go_ret2
          exact rpost_some hb2w hs
      · have e1 : signedP m ⟨u, i, s⟩ = none := by unfold signedP; rw [decide_eq_false hq, Bool.and_false]; rfl
        rw [e1]
        clear e1
        by_cases hs : s = empS
        · have ti : (u != 0) = true := by simpa using (fun h => hq ⟨h, hs⟩)
          subst hs
          clear hq
          have hee : empS.toList.isEmpty = true := by rw [emp_eq]; exact decide_eq_true rfl
          go_in
          go_wp2
          go_ret2
          exact rpost_none hb1
        · have ts : s.toList.isEmpty = false := by rw [emp_eq]; exact decide_eq_false hs
          clear hq hs
          go_in
          go_wp2
          go_ret2
          exact rpost_none hb1
end Go.Proofs.Ytnnknnaimabehaa
