/- Points and values of blocks; model.fits, model.Length. -/
import Derived.Test.YtnnknnaimabehaaDoorRows
import Derived.Test.YtnnknnaimabehaaDoorMemB
import Derived.Test.YtnnknnaimabehaaDoorBoxes
import Derived.Test.YtnnknnaimabehaaDoorGuards
import Derived.Test.YtnnknnaimabehaaDoorRegsLaws
import Derived.WalkKit
import Derived.WalkSpells
import Derived.WalkLawsBesides
import Derived.BigQuiet
import Derived.Lib.Hide
import Derived.IntWalk
import Derived.Deep.Cut
import Derived.Test.YtnnknnaimabehaaDoorRegsTextsSl
import Derived.Laws.StructEq
namespace Go.Proofs.YtnnknnaimabehaaDoor
open Go.RowKit
set_option linter.unusedVariables false

/-- A point. -/
structure PtP where
  kind : Int
  words : Int
deriving DecidableEq
/-- May a point be? -/
def ptB (p : PtP) : Bool := if p.kind = 3 then decide (1 ≤ p.words ∧ p.words ≤ 125) else decide ((p.kind = 1 ∨ p.kind = 2) ∧ (p.words = 1 ∨ p.words = 2 ∨ p.words = 4))
def sumP (l : List PtP) : Int := (l.map (·.words)).sum
/-- A definition's length; none: it may not be. -/
def defB (id : Int) (l : List PtP) : Bool := decide (1 ≤ id ∧ id ≤ 65534 ∧ 1 ≤ l.length ∧ l.length ≤ 50) && l.all ptB
def lenP (id : Int) (l : List PtP) : Int := if defB id l then sumP l else 0
theorem sumP_snoc (l : List PtP) (p : PtP) : sumP (l ++ [p]) = sumP l + p.words := by simp [sumP]
theorem ptB_in {p : PtP} (h : ptB p = true) : 1 ≤ p.words ∧ p.words ≤ 125 := by
  unfold ptB at h
  split at h
  · simpa using h
  · have := of_decide_eq_true h
    omega
theorem sumP_in (l : List PtP) (h : l.all ptB = true) : 0 ≤ sumP l ∧ sumP l ≤ 125 * l.length := by
  induction l with
  | nil => simp [sumP]
  | cons a l ih =>
    simp only [List.all_cons, Bool.and_eq_true] at h
    have h1 := ptB_in h.1
    have h2 := ih h.2
    simp only [sumP, List.map_cons, List.sum_cons, List.length_cons] at h2 ⊢
    push_cast
    omega
/-- A slice of points by value. -/
def PtI (W : World) (B : Nat) (A : Option Addr) (n c : Nat) (ps : List PtP) : Prop :=
  ps.length = n ∧ n ≤ c ∧ c ≤ maxLen ∧ (A = none → n = 0 ∧ c = 0) ∧ (0 < n → ∃ g off, A = some ⟨g, off, none⟩ ∧ g < B ∧ ∀ i p, ps[i]? = some p → W.cell? ⟨g, off + i * 2, none⟩ = some (.int .i64 p.kind) ∧ W.cell? ⟨g, off + i * 2 + 1, none⟩ = some (.int .i64 p.words))
theorem PtI.up {w w' : World} {A : Option Addr} {n c : Nat} {ps : List PtP} (h : PtI w w.heap.size A n c ps) (hb : Below w.heap.size w w') : PtI w' w'.heap.size A n c ps := by
  obtain ⟨h1, h2, h3, h4, h5⟩ := h
  refine ⟨h1, h2, h3, h4, fun hn => ?_⟩
  obtain ⟨g, off, e, hg, hc⟩ := h5 hn
  refine ⟨g, off, e, Nat.lt_of_lt_of_le hg hb.size, fun i p hp => ?_⟩
  have := hc i p hp
  exact ⟨(hb.cell (p := ⟨g, off + i * 2, none⟩) hg).trans this.1, (hb.cell (p := ⟨g, off + i * 2 + 1, none⟩) hg).trans this.2⟩
set_option maxHeartbeats 1000000 in
theorem mfits_any (k m : Int) (w : World) : Calls Tryd.prog 26 #[.agg #[.int .i64 k, .int .i64 m]] w fun e w' => e = .returned (.bool (ptB ⟨k, m⟩)) ∧ Below w.heap.size w w' := by
  obtain ⟨q, hq⟩ : ∃ q, ptB ⟨k, m⟩ = q := ⟨_, rfl⟩
  have HQ := Lib.hid hq
  rw [hq]
  clear hq
  by_cases h3 : k = 3
  · have t3 : (k == 3) = true := by simpa using h3
    by_cases h1 : 1 ≤ m <;> by_cases h2 : m ≤ 125
    all_goals
      first
        | omega
        | (go_in
           go_wp2
           go_ret
           refine ⟨retb ?_, (Below.refl _ _).alloc (Nat.le_refl _) _⟩
           rw [← HQ.out]
           simp [ptB, h3, h1, h2])
  · have t3 : (k == 3) = false := by simpa using h3
    by_cases k1 : k = 1 <;> by_cases k2 : k = 2 <;> by_cases m1 : m = 1 <;> by_cases m2 : m = 2 <;> by_cases m4 : m = 4
    all_goals
      first
        | omega
        | (go_in
           go_wp2
           go_ret
           refine ⟨retb ?_, (Below.refl _ _).alloc (Nat.le_refl _) _⟩
           rw [← HQ.out]
           simp [ptB, h3, k1, k2, m1, m2, m4])
theorem all_snoc (l : List PtP) (j : Nat) (p : PtP) (h : l[j]? = some p) : (l.take (j + 1)).all ptB = ((l.take j).all ptB && ptB p) := by
  obtain ⟨hj, rfl⟩ := List.getElem?_eq_some_iff.1 h
  rw [List.take_succ_eq_append_getElem hj, List.all_append, List.all_cons, List.all_nil, Bool.and_true]
theorem sum_snoc (l : List PtP) (j : Nat) (p : PtP) (h : l[j]? = some p) : sumP (l.take (j + 1)) = sumP (l.take j) + p.words := by
  obtain ⟨hj, rfl⟩ := List.getElem?_eq_some_iff.1 h
  rw [List.take_succ_eq_append_getElem hj, sumP_snoc]
set_option maxRecDepth 100000 in
set_option maxHeartbeats 2000000 in
theorem mlen_any (id : Int) (A : Option Addr) (n c : Nat) (ps : List PtP) (w : World) (hP : PtI w w.heap.size A n c ps) :
    Calls Tryd.prog 10 #[.agg #[.int .i64 id, .slice A n c]] w fun e w' => e = .returned (.tuple #[.int .i64 (lenP id ps), .int .i64 (if defB id ps then 0 else 260)]) ∧ Below w.heap.size w w' := by
  obtain ⟨LL, hLL⟩ : ∃ L, lenP id ps = L := ⟨_, rfl⟩
  obtain ⟨EE, hEE⟩ : ∃ E : Int, (if defB id ps then 0 else 260) = E := ⟨_, rfl⟩
  rw [hLL, hEE]
  have HLL := Lib.hid hLL
  have HEE := Lib.hid hEE
  clear hLL hEE
  obtain ⟨w1, hw1⟩ : ∃ W, w.alloc (.cells #[.int .i64 id, .slice A n c] 34) = W := ⟨_, rfl⟩
  have hb1 : Below w.heap.size w w1 := by rw [← hw1]; exact (Below.refl _ w).alloc (Nat.le_refl _) _
  have hD1 : Held w1 w.heap.size 34 #[.int .i64 id, .slice A n c] := by rw [← hw1]; exact Held.new w _ _
  have HW1 := Lib.hid hw1
  clear hw1
  have hl := hP.1
  have hcm : n ≤ maxLen := Nat.le_trans hP.2.1 hP.2.2.1
  unfold maxLen at hcm
  have HP := Lib.hid (fun (X : World) (h : Below w.heap.size w X) => hP.up h)
  have HL := Lib.hid hl
  clear hP hl
  have HF := Lib.hid (fun (k m : Int) (X : World) => mfits_any k m X)
  have d0 : w1.cell? ⟨w.heap.size, 0, none⟩ = some (.int .i64 id) := hD1.cell 0
  have d1 : w1.cell? ⟨w.heap.size, 1, none⟩ = some (.slice A n c) := hD1.cell 1
  obtain ⟨f0, hf0⟩ : ∃ f, decide (1 ≤ id ∧ id ≤ 65534 ∧ 1 ≤ n ∧ n ≤ 50) = f := ⟨_, rfl⟩
  have HF0 := Lib.hid hf0
  clear hf0
  have HB1 := Lib.hid hb1
  clear hb1 hD1
  go_in
  go_upto_region 2 with (fail)
  rw [HW1.out]
  go_cut [5] from 8 (fun s5 wx => s5 = .bool f0 ∧ wx = w1)
  case first =>
    have hff := HF0.out
    by_cases h1 : 1 ≤ id
    · by_cases h2 : id ≤ 65534
      · by_cases h3 : 1 ≤ n
        · by_cases h4 : n ≤ 50
          · have e1 : (1 : Int) ≤ (n : Int) := by omega
            have e2 : (n : Int) ≤ 50 := by omega
            have hff' : f0 = true := by rw [← hff]; exact decide_eq_true ⟨h1, h2, h3, h4⟩
            subst hff'
            clear hff
            go_wp2
            go_meet
            case rel => exact ⟨rfl, rfl⟩
          · have e1 : (1 : Int) ≤ (n : Int) := by omega
            have e2 : ¬ (n : Int) ≤ 50 := by omega
            have hff' : f0 = false := by rw [← hff]; exact decide_eq_false (by omega)
            subst hff'
            clear hff
            go_wp2
            go_meet
            case rel => exact ⟨rfl, rfl⟩
        · have e1 : ¬ (1 : Int) ≤ (n : Int) := by omega
          have hff' : f0 = false := by rw [← hff]; exact decide_eq_false (by omega)
          subst hff'
          clear hff
          go_wp2
          go_meet
          case rel => exact ⟨rfl, rfl⟩
      · have hff' : f0 = false := by rw [← hff]; exact decide_eq_false (by omega)
        subst hff'
        clear hff
        go_wp2
        go_meet
        case rel => exact ⟨rfl, rfl⟩
    · have hff' : f0 = false := by rw [← hff]; exact decide_eq_false (by omega)
      subst hff'
      clear hff
      go_wp2
      go_meet
      case rel => exact ⟨rfl, rfl⟩
  case rest =>
  obtain ⟨rfl, rfl⟩ := hcut
  go_wp2
  go_loopw [4, 5, 31] (fun s4 s5 i wx => ∃ (j : Nat) (s : Int) (f : Bool), j ≤ n ∧ i = .int .i64 j ∧ s4 = .int .i64 s ∧ s5 = .bool f ∧ f = (f0 && (ps.take j).all ptB) ∧ (f = true → s = sumP (ps.take j)) ∧ Below w.heap.size w wx) (fun _ _ i _ => n - (intOf i).toNat)
  case atStart => exact ⟨0, 0, f0, Nat.zero_le _, rfl, rfl, rfl, by simp, fun _ => by simp [sumP], HB1.out⟩
  case round =>
    obtain ⟨j, s, f, hj, rfl, rfl, rfl, hf, hs, hbr⟩ := hrel
    have HS := Lib.hid hs
    have HFF := Lib.hid hf
    clear hs hf
    by_cases hlt : j < n
    · obtain ⟨g, off, rfl, hg, hc⟩ := (HP.out wr hbr).2.2.2.2 (by omega)
      obtain ⟨⟨k, m⟩, hp⟩ : ∃ p, ps[j]? = some p := ⟨_, List.getElem?_eq_getElem (by have := HL.out; omega)⟩
      obtain ⟨c0, c1⟩ := hc j _ hp
      have HPJ := Lib.hid hp
      clear hc hp
      obtain ⟨w2, hw2⟩ : ∃ W, wr.alloc (.cells #[.int .i64 k, .int .i64 m] 42) = W := ⟨_, rfl⟩
      have hb2 : Below wr.heap.size wr w2 := by rw [← hw2]; exact (Below.refl _ _).alloc (Nat.le_refl _) _
      have hb2w := hbr.trans (hb2.mono hbr.size)
      have hK2 : Held w2 wr.heap.size 42 #[.int .i64 k, .int .i64 m] := by rw [← hw2]; exact Held.new _ _ _
      cases f with
      | false =>
        have k0 : w2.cell? ⟨wr.heap.size, 0, none⟩ = some (.int .i64 k) := hK2.cell 0
        have k1 : w2.cell? ⟨wr.heap.size, 1, none⟩ = some (.int .i64 m) := hK2.cell 1
        go_wp2
        go_roundw
        case rel => exact ⟨j + 1, _, false, by omega, by go_num, rfl, rfl, by rw [all_snoc _ _ _ HPJ.out, ← Bool.and_assoc, ← HFF.out]; rfl, (fun h => by cases h), hb2w⟩
        case measure => simp [intOf]; omega
      | true =>
        have hn50 : n ≤ 50 := by
          have h1 := HFF.out
          have h3 := h1.symm
          rw [Bool.and_eq_true] at h3
          have h4 := HF0.out
          rw [h3.1] at h4
          have := of_decide_eq_true h4
          omega
        have hall : (ps.take j).all ptB = true := by
          have h3 := HFF.out.symm
          rw [Bool.and_eq_true] at h3
          exact h3.2
        have hin := sumP_in _ hall
        rw [List.length_take] at hin
        have hs := HS.out rfl
        subst hs
        have k0 : w2.cell? ⟨wr.heap.size, 0, none⟩ = some (.int .i64 k) := hK2.cell 0
        have k1 : w2.cell? ⟨wr.heap.size, 1, none⟩ = some (.int .i64 m) := hK2.cell 1
        obtain ⟨b, hb⟩ : ∃ b, ptB ⟨k, m⟩ = b := ⟨_, rfl⟩
        have HFK := Lib.hid (HF.out k m w2)
        rw [hb] at HFK
        have HBB := Lib.hid hb
        have HSM := Lib.hid (sum_snoc _ _ _ HPJ.out)
        have HALL := Lib.hid (all_snoc _ _ _ HPJ.out)
        obtain ⟨S, hS⟩ : ∃ S, sumP (ps.take j) = S := ⟨_, rfl⟩
        simp only [hS] at hin HSM ⊢
        have hwrap : b = true → IntKind.i64.wrap (S + m) = S + m := fun h => by
          subst h
          have := ptB_in hb
          exact IntWalk.i64_in _ (by simp only at this; omega)
        have HWR := Lib.hid hwrap
        clear hb hall hS hwrap
        go_wp2_with fail
        refine HFK.out.mono ?_
        rintro e w3 ⟨rfl, hb3⟩
        have hK3 := hK2.below hb3 hK2.lt
        have k30 : w3.cell? ⟨wr.heap.size, 0, none⟩ = some (.int .i64 k) := hK3.cell 0
        have k31 : w3.cell? ⟨wr.heap.size, 1, none⟩ = some (.int .i64 m) := hK3.cell 1
        have hb3w := hb2w.trans (hb3.mono hb2w.size)
        clear hK2 hK3 k0 k1
        cases b with
        | true =>
          have hw := HWR.out rfl
          go_wp2_with fail
          go_roundw
          case rel => exact ⟨j + 1, _, true, by omega, by go_num, rfl, rfl, by rw [HALL.out, ← Bool.and_assoc, ← HFF.out, HBB.out]; rfl, (fun _ => HSM.out.symm), hb3w⟩
          case measure => simp [intOf]; omega
        | false =>
          go_wp2_with fail
          go_roundw
          case rel => exact ⟨j + 1, _, false, by omega, by go_num, rfl, rfl, by rw [HALL.out, ← Bool.and_assoc, ← HFF.out, HBB.out]; rfl, (fun h => by cases h), hb3w⟩
          case measure => simp [intOf]; omega
    · obtain rfl : j = n := by omega
      have hT : ps.take j = ps := List.take_of_length_le (by have := HL.out; omega)
      have hdf : defB id ps = f := by
        rw [HFF.out, hT, ← HF0.out]
        unfold defB
        rw [HL.out]
      rw [hT] at HS
      cases f with
      | false =>
        have hr : lenP id ps = 0 := by unfold lenP; rw [hdf]; rfl
        have HR := Lib.hid hr
        have HD := Lib.hid hdf
        clear hr hdf hT
        go_wp2
        go_ret2
        exact ⟨ret2i (by rw [← HLL.out, HR.out]) (by rw [← HEE.out, HD.out]; rfl), hbr⟩
      | true =>
        have hr : lenP id ps = s := by unfold lenP; rw [hdf, HS.out rfl]; rfl
        have HR := Lib.hid hr
        have HD := Lib.hid hdf
        clear hr hdf hT
        go_wp2
        go_ret2
        exact ⟨ret2i (by rw [← HLL.out, HR.out]) (by rw [← HEE.out, HD.out]; rfl), hbr⟩
end Go.Proofs.YtnnknnaimabehaaDoor
namespace Go.Proofs.YtnnknnaimabehaaDoor
open Go.RowKit
set_option linter.unusedVariables false
set_option maxRecDepth 100000

/-- A point's value. -/
structure ValP where
  u : Int
  i : Int
  s : ByteArray
deriving DecidableEq
def valV (v : ValP) : Value := .agg #[.int .u64 v.u, .int .i64 v.i, .string v.s]
def ValIn (v : ValP) : Prop := (0 ≤ v.u ∧ v.u ≤ 18446744073709551615) ∧ (-9223372036854775808 ≤ v.i ∧ v.i ≤ 9223372036854775807)
def empS : ByteArray := ⟨#[]⟩
def someW (b : Bool) (l : List Int) : Option (List Int) := if b then some l else none
/-- The words of a number, a signed one, a text. -/
def plainP (m : Int) (v : ValP) : Option (List Int) := someW (decide (v.i = 0 ∧ v.s = empS) && wordsB v.u m 1) (wordsX v.u m 1)
def signedP (m : Int) (v : ValP) : Option (List Int) := someW (unsB v.i m && decide (v.u = 0 ∧ v.s = empS)) (wordsX (unsV v.i m) m 1)
open Classical in
noncomputable def textP (m : Int) (v : ValP) : Option (List Int) := if (v.u = 0 ∧ v.i = 0) ∧ txtOk v.s m then some (txtL v.s m.toNat v.s.size) else none
theorem val_in (w : World) (n : Nat) (a b a' b' : Int) (c c' : ByteArray) : (Op.equalIn (n + 2) 46 (.agg #[.int .u64 a, .int .i64 b, .string c]) (.agg #[.int .u64 a', .int .i64 b', .string c'])).run Tryd.prog w = .ok (a == a' && (b == b' && c.toList == c'.toList)) w := by
  rw [run_equalIn_struct w _ _ _ _ (by kernel_rfl) (by kernel_rfl)]
  have eu := fun (d : Nat) (x y : Int) (w : World) => run_equalIn_int (P := Tryd.prog) w d 44 .u64 .u64 x y Tryd.underlying44
  have ei := fun (d : Nat) (x y : Int) (w : World) => run_equalIn_int (P := Tryd.prog) w d 2 .i64 .i64 x y Tryd.underlying2
  have es := fun (d : Nat) (x y : ByteArray) (w : World) => run_equalIn_string (P := Tryd.prog) w d 9 x y Tryd.underlying9
  simp only [Program.fieldsOf, Tryd.underlying46, Op.eqFields, part, isAgg]
  cases h1 : a == a' <;> cases h2 : b == b' <;> cases h4 : c.toList == c'.toList <;> simp [go_sem, eu, ei, es, h1, h2, h4]
theorem val_ne (w : World) (a b a' b' : Int) (c c' : ByteArray) : (binOp .neq 46 (.agg #[.int .u64 a, .int .i64 b, .string c]) (.agg #[.int .u64 a', .int .i64 b', .string c'])).run Tryd.prog w = .ok (.bool (!(a == a' && (b == b' && c.toList == c'.toList)))) w := by
  rw [run_neq_struct, val_in w 9998]
  rfl
theorem val_guard (w : World) (x y : Operand) (xs ys : Array Value) : (eqGuard .neq 46 x y (.agg xs) (.agg ys)).run Tryd.prog w = .ok () w := run_eqGuard_agg w .neq 46 x y xs ys (by kernel_rfl)
theorem emp_eq (s : ByteArray) : s.toList.isEmpty = decide (s = empS) := by
  rw [Bool.eq_iff_iff, decide_eq_true_eq, List.isEmpty_iff, ByteArray.toList_eq]
  constructor
  · intro h
    cases s with
    | mk d =>
      have : d = #[] := by simpa using h
      rw [this]
      rfl
  · rintro rfl
    rfl
/-- What a coder's words answers. -/
def CPost (w : World) (o : Option (List Int)) (e : Ending) (w' : World) : Prop := ∃ A n c er, e = .returned (.tuple #[.slice A n c, .int .i64 er]) ∧ (er = 0 ↔ o.isSome = true) ∧ (∀ l, o = some l → SlI w' w'.heap.size .u16 A n c l) ∧ Below w.heap.size w w'
set_option maxHeartbeats 1000000 in
theorem plain_words (m : Int) (v : ValP) (hv : ValIn v) (w : World) : Calls Tryd.prog 95 #[.int .i64 m, valV v] w (CPost w (plainP m v)) := by
  obtain ⟨u, i, s⟩ := v
  obtain ⟨⟨h0, h1⟩, h2, h3⟩ := hv
  simp only at h0 h1 h2 h3
  unfold valV
  obtain ⟨w1, hw1⟩ : ∃ W, w.alloc (.cells #[.int .u64 u, .int .i64 i, .string s] 46) = W := ⟨_, rfl⟩
  have hb1 : Below w.heap.size w w1 := by rw [← hw1]; exact (Below.refl _ w).alloc (Nat.le_refl _) _
  have hD1 : Held w1 w.heap.size 46 #[.int .u64 u, .int .i64 i, .string s] := by rw [← hw1]; exact Held.new w _ _
  have d0 : w1.cell? ⟨w.heap.size, 0, none⟩ = some (.int .u64 u) := hD1.cell 0
  have d1 : w1.cell? ⟨w.heap.size, 1, none⟩ = some (.int .i64 i) := hD1.cell 1
  have d2 : w1.cell? ⟨w.heap.size, 2, none⟩ = some (.string s) := hD1.cell 2
  have hvn := val_ne
  have hvg := val_guard
  have HW := Lib.hid (words_sl u m 1 h0 h1 w1)
  by_cases hq : i = 0 ∧ s = empS
  · obtain ⟨rfl, rfl⟩ := hq
    obtain ⟨o, ho⟩ : ∃ o, plainP m ⟨u, 0, empS⟩ = o := ⟨_, rfl⟩
    have HO := Lib.hid ho
    rw [ho]
    clear ho
    have hee : empS.toList.isEmpty = true := by rw [emp_eq]; exact decide_eq_true rfl
    go_in
    go_wp2_with fail
    refine HW.out.mono ?_
    rintro e w2 ⟨A, n, c, rfl, hs, hb2⟩
    have hb2w := hb1.trans (hb2.mono hb1.size)
    have HS := Lib.hid hs
    obtain ⟨er, her⟩ : ∃ e, wordsE u m 1 = e := ⟨_, rfl⟩
    have HE := Lib.hid her
    rw [her]
    clear hs her
    go_wp2_with fail
    go_ret2
    refine ⟨A, n, c, er, rfl, ?_, fun l hl => ?_, hb2w⟩
    · rw [← HO.out, ← HE.out]
      unfold plainP wordsE
      cases wordsB u m 1 <;> simp [someW]
    · rw [← HO.out] at hl
      unfold plainP at hl
      cases hb : wordsB u m 1
      · rw [hb] at hl; simp [someW] at hl
      · rw [hb] at hl
        simp [someW] at hl
        rw [← hl]
        exact HS.out
  · have hp : plainP m ⟨u, i, s⟩ = none := by unfold plainP; rw [decide_eq_false hq]; rfl
    rw [hp]
    clear hp
    have hne : ∀ l, (none : Option (List Int)) = some l → SlI w1 w1.heap.size .u16 none 0 0 l := fun l h => by cases h
    have HNE := Lib.hid hne
    clear hne
    by_cases hi : i = 0
    · have ts : s.toList.isEmpty = false := by rw [emp_eq]; exact decide_eq_false (fun h => hq ⟨hi, h⟩)
      subst hi
      clear hq
      go_in
      go_wp2
      go_ret2
      exact ⟨none, 0, 0, 260, rfl, by simp, HNE.out, hb1⟩
    · have ti : (i == 0) = false := by simpa using hi
      clear hq
      go_in
      go_wp2
      go_ret2
      exact ⟨none, 0, 0, 260, rfl, by simp, HNE.out, hb1⟩
theorem words_ok (m u : Int) (h : wordsE u m 1 = 0) : wordsB u m 1 = true := by
  unfold wordsE at h
  cases hb : wordsB u m 1
  · rw [hb] at h; simp at h
  · rfl
theorem uns_words (v m : Int) (h : unsB v m = true) : wordsB (unsV v m) m 1 = true := by
  have hm : m = 1 ∨ m = 2 ∨ m = 4 := by
    unfold unsB at h
    exact (of_decide_eq_true h).1
  unfold wordsB
  rw [← (outV_yes v m h).2, outV_fits v m hm]
  rfl
theorem uns_in (v m : Int) (h : unsB v m = true) : 0 ≤ unsV v m ∧ unsV v m ≤ 18446744073709551615 := by
  have h0 : -9223372036854775808 ≤ v := by
    unfold unsB at h
    have := of_decide_eq_true h
    obtain ⟨hm, h1, h2⟩ := this
    rcases hm with rfl | rfl | rfl <;> simp [halfS] at h1 h2 <;> omega
  have := (outV_yes v m h).2
  rw [← this]
  exact outV_in v m
set_option maxHeartbeats 1000000 in
theorem signed_words (m : Int) (v : ValP) (hv : ValIn v) (w : World) : Calls Tryd.prog 84 #[.int .i64 m, valV v] w (CPost w (signedP m v)) := by
  obtain ⟨u, i, s⟩ := v
  obtain ⟨⟨h0, h1⟩, h2, h3⟩ := hv
  simp only at h0 h1 h2 h3
  unfold valV
  obtain ⟨w1, hw1⟩ : ∃ W, w.alloc (.cells #[.int .u64 u, .int .i64 i, .string s] 46) = W := ⟨_, rfl⟩
  have hb1 : Below w.heap.size w w1 := by rw [← hw1]; exact (Below.refl _ w).alloc (Nat.le_refl _) _
  have hD1 : Held w1 w.heap.size 46 #[.int .u64 u, .int .i64 i, .string s] := by rw [← hw1]; exact Held.new w _ _
  have d0 : w1.cell? ⟨w.heap.size, 0, none⟩ = some (.int .u64 u) := hD1.cell 0
  have d1 : w1.cell? ⟨w.heap.size, 1, none⟩ = some (.int .i64 i) := hD1.cell 1
  have d2 : w1.cell? ⟨w.heap.size, 2, none⟩ = some (.string s) := hD1.cell 2
  have hvn := val_ne
  have hvg := val_guard
  have HU := Lib.hid (uns_own i m h2 h3 w1)
  have hne : ∀ l, (none : Option (List Int)) = some l → SlI w1 w1.heap.size .u16 none 0 0 l := fun l h => by cases h
  have HNE := Lib.hid hne
  clear hne
  obtain ⟨V, hV⟩ : ∃ x, unsV i m = x := ⟨_, rfl⟩
  rw [hV] at HU
  cases hub : unsB i m with
  | false =>
    have he : unsE i m = 20 := by unfold unsE; rw [hub]; rfl
    rw [he] at HU
    have hp : signedP m ⟨u, i, s⟩ = none := by unfold signedP; rw [hub]; rfl
    rw [hp]
    clear hp he hub hV
    go_in
    go_wp2_with (go_at_call 87; refine HU.out.mono ?_; rintro e w' ⟨rfl, rfl⟩)
    go_ret2
    exact ⟨none, 0, 0, 260, rfl, by simp, HNE.out, hb1⟩
  | true =>
    have he : unsE i m = 0 := by unfold unsE; rw [hub]; rfl
    rw [he] at HU
    have hin := uns_in i m hub
    by_cases hq : u = 0 ∧ s = empS
    · obtain ⟨rfl, rfl⟩ := hq
      obtain ⟨o, ho⟩ : ∃ o, signedP m ⟨0, i, empS⟩ = o := ⟨_, rfl⟩
      have HO := Lib.hid ho
      have HV := Lib.hid hV
      rw [hV] at hin
      have HW := Lib.hid (words_sl V m 1 hin.1 hin.2 w1)
      have HUB := Lib.hid hub
      rw [ho]
      have hee : empS.toList.isEmpty = true := by rw [emp_eq]; exact decide_eq_true rfl
      clear ho hV hub he hin
      go_in
      go_wp2_with (go_at_call 87; refine HU.out.mono ?_; rintro e w' ⟨rfl, rfl⟩)
      refine HW.out.mono ?_
      rintro e w2 ⟨A, n, c, rfl, hs, hb2⟩
      have hb2w := hb1.trans (hb2.mono hb1.size)
      have HS := Lib.hid hs
      obtain ⟨er, her⟩ : ∃ e, wordsE V m 1 = e := ⟨_, rfl⟩
      have HE := Lib.hid her
      rw [her]
      clear hs her
      go_wp2_with fail
      go_ret2
      refine ⟨A, n, c, er, rfl, ?_, fun l hl => ?_, hb2w⟩
      · rw [← HO.out, ← HE.out]
        unfold signedP wordsE
        rw [HUB.out, HV.out]
        have hwb := uns_words i m HUB.out
        rw [HV.out] at hwb
        rw [hwb]
        simp [someW]
      · rw [← HO.out] at hl
        unfold signedP at hl
        rw [HUB.out, HV.out] at hl
        simp [someW] at hl
        rw [← hl]
        exact HS.out
    · have hp : signedP m ⟨u, i, s⟩ = none := by unfold signedP; rw [decide_eq_false hq, Bool.and_false]; rfl
      rw [hp]
      clear hp he hV hin hub
      by_cases hi : u = 0
      · have ts : s.toList.isEmpty = false := by rw [emp_eq]; exact decide_eq_false (fun h => hq ⟨hi, h⟩)
        subst hi
        clear hq
        go_in
        go_wp2_with (go_at_call 87; refine HU.out.mono ?_; rintro e w' ⟨rfl, rfl⟩)
        go_ret2
        exact ⟨none, 0, 0, 260, rfl, by simp, HNE.out, hb1⟩
      · have ti : (u == 0) = false := by simpa using hi
        clear hq
        go_in
        go_wp2_with (go_at_call 87; refine HU.out.mono ?_; rintro e w' ⟨rfl, rfl⟩)
        go_ret2
        exact ⟨none, 0, 0, 260, rfl, by simp, HNE.out, hb1⟩
set_option maxHeartbeats 1000000 in
theorem text_words (m : Int) (v : ValP) (w : World) : Calls Tryd.prog 70 #[.int .i64 m, valV v] w (CPost w (textP m v)) := by
  obtain ⟨u, i, s⟩ := v
  unfold valV
  obtain ⟨w1, hw1⟩ : ∃ W, w.alloc (.cells #[.int .u64 u, .int .i64 i, .string s] 46) = W := ⟨_, rfl⟩
  have hb1 : Below w.heap.size w w1 := by rw [← hw1]; exact (Below.refl _ w).alloc (Nat.le_refl _) _
  have hD1 : Held w1 w.heap.size 46 #[.int .u64 u, .int .i64 i, .string s] := by rw [← hw1]; exact Held.new w _ _
  have d0 : w1.cell? ⟨w.heap.size, 0, none⟩ = some (.int .u64 u) := hD1.cell 0
  have d1 : w1.cell? ⟨w.heap.size, 1, none⟩ = some (.int .i64 i) := hD1.cell 1
  have d2 : w1.cell? ⟨w.heap.size, 2, none⟩ = some (.string s) := hD1.cell 2
  have hvn := val_ne
  have hvg := val_guard
  have HT := Lib.hid (text_any s m w1)
  have hne : ∀ l, (none : Option (List Int)) = some l → SlI w1 w1.heap.size .u16 none 0 0 l := fun l h => by cases h
  have HNE := Lib.hid hne
  clear hne
  by_cases hq : u = 0 ∧ i = 0
  · obtain ⟨rfl, rfl⟩ := hq
    obtain ⟨o, ho⟩ : ∃ o, textP m ⟨0, 0, s⟩ = o := ⟨_, rfl⟩
    have HO := Lib.hid ho
    rw [ho]
    clear ho
    go_in
    go_wp2_with fail
    refine HT.out.mono ?_
    intro e w2 hT
    rcases hT with ⟨hok, x, k, hk, rfl, hown, hb2⟩ | ⟨hno, rfl, hb2⟩
    · have hb2w := hb1.trans (hb2.mono hb1.size)
      obtain ⟨A, c, rfl, hs⟩ := SlI.of_own hown
      have HOK := Lib.hid hok
      have HK := Lib.hid hk
      have HS := Lib.hid hs
      clear hok hk hs hown
      go_wp2_with fail
      go_ret2
      have e1 : textP m ⟨0, 0, s⟩ = some (txtL s k s.size) := by
        unfold textP
        rw [if_pos ⟨⟨rfl, rfl⟩, HOK.out⟩]
        have : m.toNat = k := by have := HK.out; omega
        rw [this]
      refine ⟨A, k, c, 0, rfl, by rw [← HO.out, e1]; simp, fun l hl => ?_, hb2w⟩
      rw [← HO.out, e1] at hl
      injection hl with hl
      rw [← hl]
      exact HS.out
    · have hb2w := hb1.trans (hb2.mono hb1.size)
      have e1 : textP m ⟨0, 0, s⟩ = none := by unfold textP; rw [if_neg (fun h => hno h.2)]
      have HE1 := Lib.hid e1
      clear hno e1
      go_wp2_with fail
      go_ret2
      exact ⟨none, 0, 0, 20, rfl, by rw [← HO.out, HE1.out]; simp, (fun l hl => by rw [← HO.out, HE1.out] at hl; cases hl), hb2w⟩
  · have hp : textP m ⟨u, i, s⟩ = none := by unfold textP; rw [if_neg (fun h => hq h.1)]
    rw [hp]
    clear hp
    by_cases hi : u = 0
    · have ti : (i == 0) = false := by simpa using (fun h => hq ⟨hi, h⟩)
      subst hi
      clear hq
      go_in
      go_wp2
      go_ret2
      exact ⟨none, 0, 0, 260, rfl, by simp, HNE.out, hb1⟩
    · have ti : (u == 0) = false := by simpa using hi
      clear hq
      go_in
      go_wp2
      go_ret2
      exact ⟨none, 0, 0, 260, rfl, by simp, HNE.out, hb1⟩
end Go.Proofs.YtnnknnaimabehaaDoor
