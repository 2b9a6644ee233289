/- Points and values of blocks; model.fits, model.Length. -/
import Derived.Test.YtnnknnaimabehaaRows
import Derived.Test.YtnnknnaimabehaaMemB
import Derived.Test.YtnnknnaimabehaaBoxes
import Derived.Test.YtnnknnaimabehaaGuards
import Derived.Test.YtnnknnaimabehaaRegsPlain
import Derived.WalkKit
import Derived.WalkSpells
import Derived.WalkLawsBesides
import Derived.BigQuiet
import Derived.Lib.Hide
import Derived.IntWalk
import Derived.Deep.Cut
namespace Go.Proofs.Ytnnknnaimabehaa
open Go.RowKit
set_option linter.unusedVariables false

/-- A point. -/
structure PtP where
  kind : Int
  words : Int
deriving DecidableEq
/-- May a point be? -/
def ptB (p : PtP) : Bool := if p.kind = 3 then decide (1 ≤ p.words ∧ p.words ≤ 125) else decide ((p.kind = 1 ∨ p.kind = 2) ∧ (p.words = 1 ∨ p.words = 2 ∨ p.words = 4))
def sumP (l : List PtP) : Int := (l.map (·.words)).sum
/-- A definition's length; none: it may not be. -/
def defB (id : Int) (l : List PtP) : Bool := decide (1 ≤ id ∧ id ≤ 65534 ∧ 1 ≤ l.length ∧ l.length ≤ 50) && l.all ptB
def lenP (id : Int) (l : List PtP) : Int := if defB id l then sumP l else 0
theorem sumP_snoc (l : List PtP) (p : PtP) : sumP (l ++ [p]) = sumP l + p.words := by simp [sumP]
theorem ptB_in {p : PtP} (h : ptB p = true) : 1 ≤ p.words ∧ p.words ≤ 125 := by
  unfold ptB at h
  split at h
  · simpa using h
  · have := of_decide_eq_true h
    omega
theorem sumP_in (l : List PtP) (h : l.all ptB = true) : 0 ≤ sumP l ∧ sumP l ≤ 125 * l.length := by
  induction l with
  | nil => simp [sumP]
  | cons a l ih =>
    simp only [List.all_cons, Bool.and_eq_true] at h
    have h1 := ptB_in h.1
    have h2 := ih h.2
    simp only [sumP, List.map_cons, List.sum_cons, List.length_cons] at h2 ⊢
    push_cast
    omega
/-- A slice of points by value. -/
def PtI (W : World) (B : Nat) (A : Option Addr) (n c : Nat) (ps : List PtP) : Prop :=
  ps.length = n ∧ n ≤ c ∧ c ≤ maxLen ∧ (A = none → n = 0 ∧ c = 0) ∧ (0 < n → ∃ g off, A = some ⟨g, off, none⟩ ∧ g < B ∧ ∀ i p, ps[i]? = some p → W.cell? ⟨g, off + i * 2, none⟩ = some (.int .i64 p.kind) ∧ W.cell? ⟨g, off + i * 2 + 1, none⟩ = some (.int .i64 p.words))
theorem PtI.up {w w' : World} {A : Option Addr} {n c : Nat} {ps : List PtP} (h : PtI w w.heap.size A n c ps) (hb : Below w.heap.size w w') : PtI w' w'.heap.size A n c ps := by
  obtain ⟨h1, h2, h3, h4, h5⟩ := h
  refine ⟨h1, h2, h3, h4, fun hn => ?_⟩
  obtain ⟨g, off, e, hg, hc⟩ := h5 hn
  refine ⟨g, off, e, Nat.lt_of_lt_of_le hg hb.size, fun i p hp => ?_⟩
  have := hc i p hp
  exact ⟨(hb.cell (p := ⟨g, off + i * 2, none⟩) hg).trans this.1, (hb.cell (p := ⟨g, off + i * 2 + 1, none⟩) hg).trans this.2⟩
set_option maxHeartbeats 1000000 in
theorem mfits_any (k m : Int) (w : World) : Calls Try.prog 26 #[.agg #[.int .i64 k, .int .i64 m]] w fun e w' => e = .returned (.bool (ptB ⟨k, m⟩)) ∧ Below w.heap.size w w' := by
  obtain ⟨q, hq⟩ : ∃ q, ptB ⟨k, m⟩ = q := ⟨_, rfl⟩
  have HQ := Lib.hid hq
  rw [hq]
  clear hq
  by_cases h3 : k = 3
  · have t3 : (k == 3) = true := by simpa using h3
    by_cases h1 : 1 ≤ m <;> by_cases h2 : m ≤ 125
    all_goals
      first
        | omega
        | (go_in
           go_wp2
           go_ret
           refine ⟨retb ?_, (Below.refl _ _).alloc (Nat.le_refl _) _⟩
           rw [← HQ.out]
           simp [ptB, h3, h1, h2])
  · have t3 : (k == 3) = false := by simpa using h3
    by_cases k1 : k = 1 <;> by_cases k2 : k = 2 <;> by_cases m1 : m = 1 <;> by_cases m2 : m = 2 <;> by_cases m4 : m = 4
    all_goals
      first
        | omega
        | (go_in
           go_wp2
           go_ret
           refine ⟨retb ?_, (Below.refl _ _).alloc (Nat.le_refl _) _⟩
           rw [← HQ.out]
           simp [ptB, h3, k1, k2, m1, m2, m4])
theorem all_snoc (l : List PtP) (j : Nat) (p : PtP) (h : l[j]? = some p) : (l.take (j + 1)).all ptB = ((l.take j).all ptB && ptB p) := by
  obtain ⟨hj, rfl⟩ := List.getElem?_eq_some_iff.1 h
  rw [List.take_succ_eq_append_getElem hj, List.all_append, List.all_cons, List.all_nil, Bool.and_true]
theorem sum_snoc (l : List PtP) (j : Nat) (p : PtP) (h : l[j]? = some p) : sumP (l.take (j + 1)) = sumP (l.take j) + p.words := by
  obtain ⟨hj, rfl⟩ := List.getElem?_eq_some_iff.1 h
  rw [List.take_succ_eq_append_getElem hj, sumP_snoc]
set_option maxRecDepth 100000 in
set_option maxHeartbeats 2000000 in
theorem mlen_any (id : Int) (A : Option Addr) (n c : Nat) (ps : List PtP) (w : World) (hP : PtI w w.heap.size A n c ps) :
    Calls Try.prog 11 #[.agg #[.int .i64 id, .slice A n c]] w fun e w' => e = .returned (.tuple #[.int .i64 (lenP id ps), .int .i64 (if defB id ps then 0 else 260)]) ∧ Below w.heap.size w w' := by
  obtain ⟨LL, hLL⟩ : ∃ L, lenP id ps = L := ⟨_, rfl⟩
  obtain ⟨EE, hEE⟩ : ∃ E : Int, (if defB id ps then 0 else 260) = E := ⟨_, rfl⟩
  rw [hLL, hEE]
  have HLL := Lib.hid hLL
  have HEE := Lib.hid hEE
  clear hLL hEE
  obtain ⟨w1, hw1⟩ : ∃ W, w.alloc (.cells #[.int .i64 id, .slice A n c] 33) = W := ⟨_, rfl⟩
  have hb1 : Below w.heap.size w w1 := by rw [← hw1]; exact (Below.refl _ w).alloc (Nat.le_refl _) _
  have hD1 : Held w1 w.heap.size 33 #[.int .i64 id, .slice A n c] := by rw [← hw1]; exact Held.new w _ _
  have HW1 := Lib.hid hw1
  clear hw1
  have hl := hP.1
  have hcm : n ≤ maxLen := Nat.le_trans hP.2.1 hP.2.2.1
  unfold maxLen at hcm
  have HP := Lib.hid (fun (X : World) (h : Below w.heap.size w X) => hP.up h)
  have HL := Lib.hid hl
  clear hP hl
  have HF := Lib.hid (fun (k m : Int) (X : World) => mfits_any k m X)
  have d0 : w1.cell? ⟨w.heap.size, 0, none⟩ = some (.int .i64 id) := hD1.cell 0
  have d1 : w1.cell? ⟨w.heap.size, 1, none⟩ = some (.slice A n c) := hD1.cell 1
  obtain ⟨f0, hf0⟩ : ∃ f, decide (1 ≤ id ∧ id ≤ 65534 ∧ 1 ≤ n ∧ n ≤ 50) = f := ⟨_, rfl⟩
  have HF0 := Lib.hid hf0
  clear hf0
  have HB1 := Lib.hid hb1
  clear hb1 hD1
  go_in
  go_upto_region 2 with (fail)
  rw [HW1.out]
  go_cut [5] from 8 (fun s5 wx => s5 = .bool f0 ∧ wx = w1)
  case first =>
    have hff := HF0.out
    by_cases h1 : 1 ≤ id
    · by_cases h2 : id ≤ 65534
      · by_cases h3 : 1 ≤ n
        · by_cases h4 : n ≤ 50
          · have e1 : (1 : Int) ≤ (n : Int) := by omega
            have e2 : (n : Int) ≤ 50 := by omega
            have hff' : f0 = true := by rw [← hff]; exact decide_eq_true ⟨h1, h2, h3, h4⟩
            subst hff'
            clear hff
            go_wp2
            go_meet
            case rel => exact ⟨rfl, rfl⟩
          · have e1 : (1 : Int) ≤ (n : Int) := by omega
            have e2 : ¬ (n : Int) ≤ 50 := by omega
            have hff' : f0 = false := by rw [← hff]; exact decide_eq_false (by omega)
            subst hff'
            clear hff
            go_wp2
            go_meet
            case rel => exact ⟨rfl, rfl⟩
        · have e1 : ¬ (1 : Int) ≤ (n : Int) := by omega
          have hff' : f0 = false := by rw [← hff]; exact decide_eq_false (by omega)
          subst hff'
          clear hff
          go_wp2
          go_meet
          case rel => exact ⟨rfl, rfl⟩
      · have hff' : f0 = false := by rw [← hff]; exact decide_eq_false (by omega)
        subst hff'
        clear hff
        go_wp2
        go_meet
        case rel => exact ⟨rfl, rfl⟩
    · have hff' : f0 = false := by rw [← hff]; exact decide_eq_false (by omega)
      subst hff'
      clear hff
      go_wp2
      go_meet
      case rel => exact ⟨rfl, rfl⟩
  case rest =>
  obtain ⟨rfl, rfl⟩ := hcut
  go_wp2
  go_loopw [4, 5, 31] (fun s4 s5 i wx => ∃ (j : Nat) (s : Int) (f : Bool), j ≤ n ∧ i = .int .i64 j ∧ s4 = .int .i64 s ∧ s5 = .bool f ∧ f = (f0 && (ps.take j).all ptB) ∧ (f = true → s = sumP (ps.take j)) ∧ Below w.heap.size w wx) (fun _ _ i _ => n - (intOf i).toNat)
  case atStart => exact ⟨0, 0, f0, Nat.zero_le _, rfl, rfl, rfl, by simp, fun _ => by simp [sumP], HB1.out⟩
  case round =>
    obtain ⟨j, s, f, hj, rfl, rfl, rfl, hf, hs, hbr⟩ := hrel
    have HS := Lib.hid hs
    have HFF := Lib.hid hf
    clear hs hf
    by_cases hlt : j < n
    · obtain ⟨g, off, rfl, hg, hc⟩ := (HP.out wr hbr).2.2.2.2 (by omega)
      obtain ⟨⟨k, m⟩, hp⟩ : ∃ p, ps[j]? = some p := ⟨_, List.getElem?_eq_getElem (by have := HL.out; omega)⟩
      obtain ⟨c0, c1⟩ := hc j _ hp
      have HPJ := Lib.hid hp
      clear hc hp
      obtain ⟨w2, hw2⟩ : ∃ W, wr.alloc (.cells #[.int .i64 k, .int .i64 m] 62) = W := ⟨_, rfl⟩
      have hb2 : Below wr.heap.size wr w2 := by rw [← hw2]; exact (Below.refl _ _).alloc (Nat.le_refl _) _
      have hb2w := hbr.trans (hb2.mono hbr.size)
      have hK2 : Held w2 wr.heap.size 62 #[.int .i64 k, .int .i64 m] := by rw [← hw2]; exact Held.new _ _ _
      cases f with
      | false =>
        have k0 : w2.cell? ⟨wr.heap.size, 0, none⟩ = some (.int .i64 k) := hK2.cell 0
        have k1 : w2.cell? ⟨wr.heap.size, 1, none⟩ = some (.int .i64 m) := hK2.cell 1
        go_wp2
        go_roundw
        case rel => exact ⟨j + 1, _, false, by omega, by go_num, rfl, rfl, by rw [all_snoc _ _ _ HPJ.out, ← Bool.and_assoc, ← HFF.out]; rfl, (fun h => by cases h), hb2w⟩
        case measure => simp [intOf]; omega
      | true =>
        have hn50 : n ≤ 50 := by
          have h1 := HFF.out
          have h3 := h1.symm
          rw [Bool.and_eq_true] at h3
          have h4 := HF0.out
          rw [h3.1] at h4
          have := of_decide_eq_true h4
          omega
        have hall : (ps.take j).all ptB = true := by
          have h3 := HFF.out.symm
          rw [Bool.and_eq_true] at h3
          exact h3.2
        have hin := sumP_in _ hall
        rw [List.length_take] at hin
        have hs := HS.out rfl
        subst hs
        have k0 : w2.cell? ⟨wr.heap.size, 0, none⟩ = some (.int .i64 k) := hK2.cell 0
        have k1 : w2.cell? ⟨wr.heap.size, 1, none⟩ = some (.int .i64 m) := hK2.cell 1
        obtain ⟨b, hb⟩ : ∃ b, ptB ⟨k, m⟩ = b := ⟨_, rfl⟩
        have HFK := Lib.hid (HF.out k m w2)
        rw [hb] at HFK
        have HBB := Lib.hid hb
        have HSM := Lib.hid (sum_snoc _ _ _ HPJ.out)
        have HALL := Lib.hid (all_snoc _ _ _ HPJ.out)
        obtain ⟨S, hS⟩ : ∃ S, sumP (ps.take j) = S := ⟨_, rfl⟩
        simp only [hS] at hin HSM ⊢
        have hwrap : b = true → IntKind.i64.wrap (S + m) = S + m := fun h => by
          subst h
          have := ptB_in hb
          exact IntWalk.i64_in _ (by simp only at this; omega)
        have HWR := Lib.hid hwrap
        clear hb hall hS hwrap
        go_wp2_with fail
        refine HFK.out.mono ?_
        rintro e w3 ⟨rfl, hb3⟩
        have hK3 := hK2.below hb3 hK2.lt
        have k30 : w3.cell? ⟨wr.heap.size, 0, none⟩ = some (.int .i64 k) := hK3.cell 0
        have k31 : w3.cell? ⟨wr.heap.size, 1, none⟩ = some (.int .i64 m) := hK3.cell 1
        have hb3w := hb2w.trans (hb3.mono hb2w.size)
        clear hK2 hK3 k0 k1
        cases b with
        | true =>
          have hw := HWR.out rfl
          go_wp2_with fail
          go_roundw
          case rel => exact ⟨j + 1, _, true, by omega, by go_num, rfl, rfl, by rw [HALL.out, ← Bool.and_assoc, ← HFF.out, HBB.out]; rfl, (fun _ => HSM.out.symm), hb3w⟩
          case measure => simp [intOf]; omega
        | false =>
          go_wp2_with fail
          go_roundw
          case rel => exact ⟨j + 1, _, false, by omega, by go_num, rfl, rfl, by rw [HALL.out, ← Bool.and_assoc, ← HFF.out, HBB.out]; rfl, (fun h => by cases h), hb3w⟩
          case measure => simp [intOf]; omega
    · obtain rfl : j = n := by omega
      have hT : ps.take j = ps := List.take_of_length_le (by have := HL.out; omega)
      have hdf : defB id ps = f := by
        rw [HFF.out, hT, ← HF0.out]
        unfold defB
        rw [HL.out]
      rw [hT] at HS
      cases f with
      | false =>
        have hr : lenP id ps = 0 := by unfold lenP; rw [hdf]; rfl
        have HR := Lib.hid hr
        have HD := Lib.hid hdf
        clear hr hdf hT
        go_wp2
        go_ret2
        exact ⟨ret2i (by rw [← HLL.out, HR.out]) (by rw [← HEE.out, HD.out]; rfl), hbr⟩
      | true =>
        have hr : lenP id ps = s := by unfold lenP; rw [hdf, HS.out rfl]; rfl
        have HR := Lib.hid hr
        have HD := Lib.hid hdf
        clear hr hdf hT
        go_wp2
        go_ret2
        exact ⟨ret2i (by rw [← HLL.out, HR.out]) (by rw [← HEE.out, HD.out]; rfl), hbr⟩
end Go.Proofs.Ytnnknnaimabehaa
