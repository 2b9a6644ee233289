/- A point's values in words: the three coders. -/
import Derived.Test.YtnnknnaimabehaaModCore
import Derived.Test.YtnnknnaimabehaaRegsLaws
import Derived.Test.YtnnknnaimabehaaRegsText
import Derived.Laws.StructEq
namespace Go.Proofs.Ytnnknnaimabehaa
open Go.RowKit
set_option linter.unusedVariables false
set_option maxRecDepth 100000

/-- A point's value. -/
structure ValP where
  u : Int
  i : Int
  s : ByteArray
deriving DecidableEq
def valV (v : ValP) : Value := .agg #[.int .u64 v.u, .int .i64 v.i, .string v.s]
def ValIn (v : ValP) : Prop := (0 ≤ v.u ∧ v.u ≤ 18446744073709551615) ∧ (-9223372036854775808 ≤ v.i ∧ v.i ≤ 9223372036854775807)
def empS : ByteArray := ⟨#[]⟩
def someW (b : Bool) (l : List Int) : Option (List Int) := if b then some l else none
/-- The words of a number, a signed one, a text. -/
def plainP (m : Int) (v : ValP) : Option (List Int) := someW (decide (v.i = 0 ∧ v.s = empS) && wordsB v.u m 1) (wordsX v.u m 1)
def signedP (m : Int) (v : ValP) : Option (List Int) := someW (unsB v.i m && decide (v.u = 0 ∧ v.s = empS)) (wordsX (unsV v.i m) m 1)
open Classical in
noncomputable def textP (m : Int) (v : ValP) : Option (List Int) := if (v.u = 0 ∧ v.i = 0) ∧ txtOk v.s m then some (txtL v.s m.toNat v.s.size) else none
theorem val_in (w : World) (n : Nat) (a b a' b' : Int) (c c' : ByteArray) : (Op.equalIn (n + 2) 60 (.agg #[.int .u64 a, .int .i64 b, .string c]) (.agg #[.int .u64 a', .int .i64 b', .string c'])).run Try.prog w = .ok (a == a' && (b == b' && c.toList == c'.toList)) w := by
  rw [run_equalIn_struct w _ _ _ _ (by kernel_rfl) (by kernel_rfl)]
  have eu := fun (d : Nat) (x y : Int) (w : World) => run_equalIn_int (P := Try.prog) w d 58 .u64 .u64 x y Try.underlying58
  have ei := fun (d : Nat) (x y : Int) (w : World) => run_equalIn_int (P := Try.prog) w d 2 .i64 .i64 x y Try.underlying2
  have es := fun (d : Nat) (x y : ByteArray) (w : World) => run_equalIn_string (P := Try.prog) w d 9 x y Try.underlying9
  simp only [Program.fieldsOf, Try.underlying60, Op.eqFields, part, isAgg]
  cases h1 : a == a' <;> cases h2 : b == b' <;> cases h4 : c.toList == c'.toList <;> simp [go_sem, eu, ei, es, h1, h2, h4]
theorem val_ne (w : World) (a b a' b' : Int) (c c' : ByteArray) : (binOp .neq 60 (.agg #[.int .u64 a, .int .i64 b, .string c]) (.agg #[.int .u64 a', .int .i64 b', .string c'])).run Try.prog w = .ok (.bool (!(a == a' && (b == b' && c.toList == c'.toList)))) w := by
  rw [run_neq_struct, val_in w 9998]
  rfl
theorem val_guard (w : World) (x y : Operand) (xs ys : Array Value) : (eqGuard .neq 60 x y (.agg xs) (.agg ys)).run Try.prog w = .ok () w := run_eqGuard_agg w .neq 60 x y xs ys (by kernel_rfl)
theorem emp_eq (s : ByteArray) : s.toList.isEmpty = decide (s = empS) := by
  rw [Bool.eq_iff_iff, decide_eq_true_eq, List.isEmpty_iff, ByteArray.toList_eq]
  constructor
  · intro h
    cases s with
    | mk d =>
      have : d = #[] := by simpa using h
      rw [this]
      rfl
  · rintro rfl
    rfl
/-- What a coder's words answers. -/
def CPost (w : World) (o : Option (List Int)) (e : Ending) (w' : World) : Prop := ∃ A n c er, e = .returned (.tuple #[.slice A n c, .int .i64 er]) ∧ (er = 0 ↔ o.isSome = true) ∧ (∀ l, o = some l → SlI w' w'.heap.size .u16 A n c l) ∧ Below w.heap.size w w'
set_option maxHeartbeats 1000000 in
theorem plain_words (m : Int) (v : ValP) (hv : ValIn v) (w : World) : Calls Try.prog 96 #[.int .i64 m, valV v] w (CPost w (plainP m v)) := by
  obtain ⟨u, i, s⟩ := v
  obtain ⟨⟨h0, h1⟩, h2, h3⟩ := hv
  simp only at h0 h1 h2 h3
  unfold valV
  obtain ⟨w1, hw1⟩ : ∃ W, w.alloc (.cells #[.int .u64 u, .int .i64 i, .string s] 60) = W := ⟨_, rfl⟩
  have hb1 : Below w.heap.size w w1 := by rw [← hw1]; exact (Below.refl _ w).alloc (Nat.le_refl _) _
  have hD1 : Held w1 w.heap.size 60 #[.int .u64 u, .int .i64 i, .string s] := by rw [← hw1]; exact Held.new w _ _
  have d0 : w1.cell? ⟨w.heap.size, 0, none⟩ = some (.int .u64 u) := hD1.cell 0
  have d1 : w1.cell? ⟨w.heap.size, 1, none⟩ = some (.int .i64 i) := hD1.cell 1
  have d2 : w1.cell? ⟨w.heap.size, 2, none⟩ = some (.string s) := hD1.cell 2
  have hvn := val_ne
  have hvg := val_guard
  have HW := Lib.hid (words_sl u m 1 h0 h1 w1)
  by_cases hq : i = 0 ∧ s = empS
  · obtain ⟨rfl, rfl⟩ := hq
    obtain ⟨o, ho⟩ : ∃ o, plainP m ⟨u, 0, empS⟩ = o := ⟨_, rfl⟩
    have HO := Lib.hid ho
    rw [ho]
    clear ho
    have hee : empS.toList.isEmpty = true := by rw [emp_eq]; exact decide_eq_true rfl
    go_in
    go_wp2_with fail
    refine HW.out.mono ?_
    rintro e w2 ⟨A, n, c, rfl, hs, hb2⟩
    have hb2w := hb1.trans (hb2.mono hb1.size)
    have HS := Lib.hid hs
    obtain ⟨er, her⟩ : ∃ e, wordsE u m 1 = e := ⟨_, rfl⟩
    have HE := Lib.hid her
    rw [her]
    clear hs her
    go_wp2_with fail
    go_ret2
    refine ⟨A, n, c, er, rfl, ?_, fun l hl => ?_, hb2w⟩
    · rw [← HO.out, ← HE.out]
      unfold plainP wordsE
      cases wordsB u m 1 <;> simp [someW]
    · rw [← HO.out] at hl
      unfold plainP at hl
      cases hb : wordsB u m 1
      · rw [hb] at hl; simp [someW] at hl
      · rw [hb] at hl
        simp [someW] at hl
        rw [← hl]
        exact HS.out
  · have hp : plainP m ⟨u, i, s⟩ = none := by unfold plainP; rw [decide_eq_false hq]; rfl
    rw [hp]
    clear hp
    have hne : ∀ l, (none : Option (List Int)) = some l → SlI w1 w1.heap.size .u16 none 0 0 l := fun l h => by cases h
    have HNE := Lib.hid hne
    clear hne
    by_cases hi : i = 0
    · have ts : s.toList.isEmpty = false := by rw [emp_eq]; exact decide_eq_false (fun h => hq ⟨hi, h⟩)
      subst hi
      clear hq
      go_in
      go_wp2
      go_ret2
      exact ⟨none, 0, 0, 260, rfl, by simp, HNE.out, hb1⟩
    · have ti : (i == 0) = false := by simpa using hi
      clear hq
      go_in
      go_wp2
      go_ret2
      exact ⟨none, 0, 0, 260, rfl, by simp, HNE.out, hb1⟩
theorem words_ok (m u : Int) (h : wordsE u m 1 = 0) : wordsB u m 1 = true := by
  unfold wordsE at h
  cases hb : wordsB u m 1
  · rw [hb] at h; simp at h
  · rfl
theorem uns_words (v m : Int) (h : unsB v m = true) : wordsB (unsV v m) m 1 = true := by
  have hm : m = 1 ∨ m = 2 ∨ m = 4 := by
    unfold unsB at h
    exact (of_decide_eq_true h).1
  unfold wordsB
  rw [← (outV_yes v m h).2, outV_fits v m hm]
  rfl
theorem uns_in (v m : Int) (h : unsB v m = true) : 0 ≤ unsV v m ∧ unsV v m ≤ 18446744073709551615 := by
  have h0 : -9223372036854775808 ≤ v := by
    unfold unsB at h
    have := of_decide_eq_true h
    obtain ⟨hm, h1, h2⟩ := this
    rcases hm with rfl | rfl | rfl <;> simp [halfS] at h1 h2 <;> omega
  have := (outV_yes v m h).2
  rw [← this]
  exact outV_in v m
set_option maxHeartbeats 1000000 in
theorem signed_words (m : Int) (v : ValP) (hv : ValIn v) (w : World) : Calls Try.prog 85 #[.int .i64 m, valV v] w (CPost w (signedP m v)) := by
  obtain ⟨u, i, s⟩ := v
  obtain ⟨⟨h0, h1⟩, h2, h3⟩ := hv
  simp only at h0 h1 h2 h3
  unfold valV
  obtain ⟨w1, hw1⟩ : ∃ W, w.alloc (.cells #[.int .u64 u, .int .i64 i, .string s] 60) = W := ⟨_, rfl⟩
  have hb1 : Below w.heap.size w w1 := by rw [← hw1]; exact (Below.refl _ w).alloc (Nat.le_refl _) _
  have hD1 : Held w1 w.heap.size 60 #[.int .u64 u, .int .i64 i, .string s] := by rw [← hw1]; exact Held.new w _ _
  have d0 : w1.cell? ⟨w.heap.size, 0, none⟩ = some (.int .u64 u) := hD1.cell 0
  have d1 : w1.cell? ⟨w.heap.size, 1, none⟩ = some (.int .i64 i) := hD1.cell 1
  have d2 : w1.cell? ⟨w.heap.size, 2, none⟩ = some (.string s) := hD1.cell 2
  have hvn := val_ne
  have hvg := val_guard
  have HU := Lib.hid (uns_own i m h2 h3 w1)
  have hne : ∀ l, (none : Option (List Int)) = some l → SlI w1 w1.heap.size .u16 none 0 0 l := fun l h => by cases h
  have HNE := Lib.hid hne
  clear hne
  obtain ⟨V, hV⟩ : ∃ x, unsV i m = x := ⟨_, rfl⟩
  rw [hV] at HU
  cases hub : unsB i m with
  | false =>
    have he : unsE i m = 20 := by unfold unsE; rw [hub]; rfl
    rw [he] at HU
    have hp : signedP m ⟨u, i, s⟩ = none := by unfold signedP; rw [hub]; rfl
    rw [hp]
    clear hp he hub hV
    go_in
    go_wp2_with (go_at_call 88; refine HU.out.mono ?_; rintro e w' ⟨rfl, rfl⟩)
    go_ret2
    exact ⟨none, 0, 0, 260, rfl, by simp, HNE.out, hb1⟩
  | true =>
    have he : unsE i m = 0 := by unfold unsE; rw [hub]; rfl
    rw [he] at HU
    have hin := uns_in i m hub
    by_cases hq : u = 0 ∧ s = empS
    · obtain ⟨rfl, rfl⟩ := hq
      obtain ⟨o, ho⟩ : ∃ o, signedP m ⟨0, i, empS⟩ = o := ⟨_, rfl⟩
      have HO := Lib.hid ho
      have HV := Lib.hid hV
      rw [hV] at hin
      have HW := Lib.hid (words_sl V m 1 hin.1 hin.2 w1)
      have HUB := Lib.hid hub
      rw [ho]
      have hee : empS.toList.isEmpty = true := by rw [emp_eq]; exact decide_eq_true rfl
      clear ho hV hub he hin
      go_in
      go_wp2_with (go_at_call 88; refine HU.out.mono ?_; rintro e w' ⟨rfl, rfl⟩)
      refine HW.out.mono ?_
      rintro e w2 ⟨A, n, c, rfl, hs, hb2⟩
      have hb2w := hb1.trans (hb2.mono hb1.size)
      have HS := Lib.hid hs
      obtain ⟨er, her⟩ : ∃ e, wordsE V m 1 = e := ⟨_, rfl⟩
      have HE := Lib.hid her
      rw [her]
      clear hs her
      go_wp2_with fail
      go_ret2
      refine ⟨A, n, c, er, rfl, ?_, fun l hl => ?_, hb2w⟩
      · rw [← HO.out, ← HE.out]
        unfold signedP wordsE
        rw [HUB.out, HV.out]
        have hwb := uns_words i m HUB.out
        rw [HV.out] at hwb
        rw [hwb]
        simp [someW]
      · rw [← HO.out] at hl
        unfold signedP at hl
        rw [HUB.out, HV.out] at hl
        simp [someW] at hl
        rw [← hl]
        exact HS.out
    · have hp : signedP m ⟨u, i, s⟩ = none := by unfold signedP; rw [decide_eq_false hq, Bool.and_false]; rfl
      rw [hp]
      clear hp he hV hin hub
      by_cases hi : u = 0
      · have ts : s.toList.isEmpty = false := by rw [emp_eq]; exact decide_eq_false (fun h => hq ⟨hi, h⟩)
        subst hi
        clear hq
        go_in
        go_wp2_with (go_at_call 88; refine HU.out.mono ?_; rintro e w' ⟨rfl, rfl⟩)
        go_ret2
        exact ⟨none, 0, 0, 260, rfl, by simp, HNE.out, hb1⟩
      · have ti : (u == 0) = false := by simpa using hi
        clear hq
        go_in
        go_wp2_with (go_at_call 88; refine HU.out.mono ?_; rintro e w' ⟨rfl, rfl⟩)
        go_ret2
        exact ⟨none, 0, 0, 260, rfl, by simp, HNE.out, hb1⟩
set_option maxHeartbeats 1000000 in
theorem text_words (m : Int) (v : ValP) (w : World) : Calls Try.prog 71 #[.int .i64 m, valV v] w (CPost w (textP m v)) := by
  obtain ⟨u, i, s⟩ := v
  unfold valV
  obtain ⟨w1, hw1⟩ : ∃ W, w.alloc (.cells #[.int .u64 u, .int .i64 i, .string s] 60) = W := ⟨_, rfl⟩
  have hb1 : Below w.heap.size w w1 := by rw [← hw1]; exact (Below.refl _ w).alloc (Nat.le_refl _) _
  have hD1 : Held w1 w.heap.size 60 #[.int .u64 u, .int .i64 i, .string s] := by rw [← hw1]; exact Held.new w _ _
  have d0 : w1.cell? ⟨w.heap.size, 0, none⟩ = some (.int .u64 u) := hD1.cell 0
  have d1 : w1.cell? ⟨w.heap.size, 1, none⟩ = some (.int .i64 i) := hD1.cell 1
  have d2 : w1.cell? ⟨w.heap.size, 2, none⟩ = some (.string s) := hD1.cell 2
  have hvn := val_ne
  have hvg := val_guard
  have HT := Lib.hid (text_any s m w1)
  have hne : ∀ l, (none : Option (List Int)) = some l → SlI w1 w1.heap.size .u16 none 0 0 l := fun l h => by cases h
  have HNE := Lib.hid hne
  clear hne
  by_cases hq : u = 0 ∧ i = 0
  · obtain ⟨rfl, rfl⟩ := hq
    obtain ⟨o, ho⟩ : ∃ o, textP m ⟨0, 0, s⟩ = o := ⟨_, rfl⟩
    have HO := Lib.hid ho
    rw [ho]
    clear ho
    go_in
    go_wp2_with fail
    refine HT.out.mono ?_
    intro e w2 hT
    rcases hT with ⟨hok, x, k, hk, rfl, hown, hb2⟩ | ⟨hno, rfl, hb2⟩
    · have hb2w := hb1.trans (hb2.mono hb1.size)
      obtain ⟨A, c, rfl, hs⟩ := SlI.of_own hown
      have HOK := Lib.hid hok
      have HK := Lib.hid hk
      have HS := Lib.hid hs
      clear hok hk hs hown
      go_wp2_with fail
      go_ret2
      have e1 : textP m ⟨0, 0, s⟩ = some (txtL s k s.size) := by
        unfold textP
        rw [if_pos ⟨⟨rfl, rfl⟩, HOK.out⟩]
        have : m.toNat = k := by have := HK.out; omega
        rw [this]
      refine ⟨A, k, c, 0, rfl, by rw [← HO.out, e1]; simp, fun l hl => ?_, hb2w⟩
      rw [← HO.out, e1] at hl
      injection hl with hl
      rw [← hl]
      exact HS.out
    · have hb2w := hb1.trans (hb2.mono hb1.size)
      have e1 : textP m ⟨0, 0, s⟩ = none := by unfold textP; rw [if_neg (fun h => hno h.2)]
      have HE1 := Lib.hid e1
      clear hno e1
      go_wp2_with fail
      go_ret2
      exact ⟨none, 0, 0, 20, rfl, by rw [← HO.out, HE1.out]; simp, (fun l hl => by rw [← HO.out, HE1.out] at hl; cases hl), hb2w⟩
  · have hp : textP m ⟨u, i, s⟩ = none := by unfold textP; rw [if_neg (fun h => hq h.1)]
    rw [hp]
    clear hp
    by_cases hi : u = 0
    · have ti : (i == 0) = false := by simpa using (fun h => hq ⟨hi, h⟩)
      subst hi
      clear hq
      go_in
      go_wp2
      go_ret2
      exact ⟨none, 0, 0, 260, rfl, by simp, HNE.out, hb1⟩
    · have ti : (u == 0) = false := by simpa using hi
      clear hq
      go_in
      go_wp2
      go_ret2
      exact ⟨none, 0, 0, 260, rfl, by simp, HNE.out, hb1⟩
end Go.Proofs.Ytnnknnaimabehaa
