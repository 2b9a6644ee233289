/- kilowattref26.Length. -/
import Derived.Test.YtnnknnaimabehaaModCore
import Derived.Test.YtnnknnaimabehaaRegsSigns
namespace Go.Proofs.Ytnnknnaimabehaa
open Go.RowKit
set_option linter.unusedVariables false
set_option maxRecDepth 100000
theorem all_no (l : List PtP) (j : Nat) (p : PtP) (h : l[j]? = some p) (hp : ptB p = false) : l.all ptB = false := by
  rw [List.all_eq_false]
  exact ⟨p, List.mem_of_getElem? h, by rw [hp]; simp⟩
theorem def_no (id : Int) (ps : List PtP) (h : ¬ (1 ≤ id ∧ id ≤ 65534 ∧ 1 ≤ ps.length ∧ ps.length ≤ 50)) : defB id ps = false := by
  unfold defB
  rw [decide_eq_false h]
  rfl
theorem pt_cases (k m : Int) : ptB ⟨k, m⟩ = true ↔ (k = 3 ∧ 1 ≤ m ∧ m ≤ 125) ∨ ((k = 1 ∨ k = 2) ∧ mayB m = true) := by
  unfold ptB mayB
  by_cases h : k = 3
  · subst h; simp
  · simp [h]
set_option maxHeartbeats 4000000 in
theorem rlen_any (id : Int) (A : Option Addr) (n c : Nat) (ps : List PtP) (w : World) (hP : PtI w w.heap.size A n c ps) :
    Calls Try.prog 16 #[.agg #[.int .i64 id, .slice A n c]] w fun e w' => e = .returned (.int .i64 (if defB id ps then sumP ps else -1)) ∧ Below w.heap.size w w' := by
  obtain ⟨R, hR⟩ : ∃ R : Int, (if defB id ps then sumP ps else -1) = R := ⟨_, rfl⟩
  rw [hR]
  have HR := Lib.hid hR
  clear hR
  obtain ⟨w1, hw1⟩ : ∃ W, w.alloc (.cells #[.int .i64 id, .slice A n c] 33) = W := ⟨_, rfl⟩
  have hb1 : Below w.heap.size w w1 := by rw [← hw1]; exact (Below.refl _ w).alloc (Nat.le_refl _) _
  have hD1 : Held w1 w.heap.size 33 #[.int .i64 id, .slice A n c] := by rw [← hw1]; exact Held.new w _ _
  have hl := hP.1
  have HP := Lib.hid (fun (X : World) (h : Below w.heap.size w X) => hP.up h)
  have HL := Lib.hid hl
  have HD := Lib.hid (fun (X : World) (h : Below w1.heap.size w1 X) => hD1.below h hD1.lt)
  clear hP hl
  have d0 : w1.cell? ⟨w.heap.size, 0, none⟩ = some (.int .i64 id) := hD1.cell 0
  have d1 : w1.cell? ⟨w.heap.size, 1, none⟩ = some (.slice A n c) := hD1.cell 1
  clear hD1
  by_cases hd : 1 ≤ id ∧ id ≤ 65534 ∧ 1 ≤ n ∧ n ≤ 50
  · obtain ⟨h1, h2, h3, h4⟩ := hd
    have t1 : ¬ id < 1 := by omega
    have t2 : ¬ id > 65534 := by omega
    have t3 : ((n : Int) == 0) = false := by simp; omega
    have t4 : ¬ (n : Int) > 50 := by omega
    have HIN := Lib.hid (And.intro h1 (And.intro h2 (And.intro h3 h4)))
    clear h1 h2 h3
    go_in
    go_wp2_with fail
    go_loopw [3, 4] (fun s3 s4 wx => ∃ (j : Nat), j ≤ n ∧ s4 = .int .i64 j ∧ s3 = .int .i64 (sumP (ps.take j)) ∧ (ps.take j).all ptB = true ∧ Below w1.heap.size w1 wx) (fun _ s4 _ => n - (intOf s4).toNat)
    case atStart => exact ⟨0, Nat.zero_le _, rfl, by simp [sumP], by simp, by first | exact Below.refl _ _ | (rw [hw1]; exact Below.refl _ _)⟩
    case round =>
      obtain ⟨j, hj, rfl, rfl, hall, hbr⟩ := hrel
      clear d0 d1
      have hK := HD.out wr hbr
      have e0 : wr.cell? ⟨w.heap.size, 0, none⟩ = some (.int .i64 id) := hK.cell 0
      have e1 : wr.cell? ⟨w.heap.size, 1, none⟩ = some (.slice A n c) := hK.cell 1
      have hbrw := hb1.trans (hbr.mono hb1.size)
      have hin := sumP_in _ hall
      rw [List.length_take, HL.out] at hin
      by_cases hlt : j < n
      · obtain ⟨g, off, rfl, hg, hc⟩ := (HP.out wr hbrw).2.2.2.2 (by omega)
        obtain ⟨⟨k, m⟩, hp⟩ : ∃ p, ps[j]? = some p := ⟨_, List.getElem?_eq_getElem (by rw [HL.out]; omega)⟩
        obtain ⟨c0, c1⟩ := hc j _ hp
        dsimp only at c0 c1
        have hsn := sum_snoc _ _ _ hp
        have han := all_snoc _ _ _ hp
        have hno := all_no _ _ _ hp
        rw [hall] at han
        obtain ⟨b, hb⟩ : ∃ b, ptB ⟨k, m⟩ = b := ⟨_, rfl⟩
        rw [hb] at han hno
        have hcase := pt_cases k m
        rw [hb] at hcase
        have hpi : b = true → 1 ≤ m ∧ m ≤ 125 := fun h => by rw [h] at hb; exact ptB_in hb
        have HB := Lib.hid hb
        have HAN := Lib.hid han
        have HNO := Lib.hid hno
        have HSN := Lib.hid hsn
        clear hc hp hb han hno hsn
        obtain ⟨S, hS⟩ : ∃ S, sumP (ps.take j) = S := ⟨_, rfl⟩
        rw [hS] at hin ⊢
        have HS := Lib.hid hS
        obtain ⟨w2, hw2⟩ : ∃ W, wr.alloc (.cells #[.int .i64 k, .int .i64 m] 62) = W := ⟨_, rfl⟩
        have hb2 : Below wr.heap.size wr w2 := by rw [← hw2]; exact (Below.refl _ _).alloc (Nat.le_refl _) _
        have hb2x := hbr.trans (hb2.mono hbr.size)
        have hK2 : Held w2 wr.heap.size 62 #[.int .i64 k, .int .i64 m] := by rw [← hw2]; exact Held.new _ _ _
        have k0 : w2.cell? ⟨wr.heap.size, 0, none⟩ = some (.int .i64 k) := hK2.cell 0
        have k1 : w2.cell? ⟨wr.heap.size, 1, none⟩ = some (.int .i64 m) := hK2.cell 1
        clear hS hall hK
        cases b with
        | true =>
          have hm := hpi rfl
          have hw : IntKind.i64.wrap (S + m) = S + m := IntWalk.i64_in _ (by omega)
          have hh := hcase.1 rfl
          clear hcase hpi
          rcases hh with ⟨rfl, m1, m2⟩ | ⟨hk, hmay⟩
          · go_wp2_with fail
            go_roundw
            case rel => exact ⟨j + 1, by omega, by go_num, by rw [HSN.out, HS.out], HAN.out, hb2x⟩
            case measure => simp [intOf]; omega
          · have HM := Lib.hid (may_any m)
            rw [hmay] at HM
            clear hmay
            rcases hk with rfl | rfl
            · go_wp2_with (go_at_call 28; refine (HM.out _).mono ?_; rintro e w' ⟨rfl, rfl⟩)
              go_roundw
              case rel => exact ⟨j + 1, by omega, by go_num, by rw [HSN.out, HS.out], HAN.out, hb2x⟩
              case measure => simp [intOf]; omega
            · go_wp2_with (go_at_call 28; refine (HM.out _).mono ?_; rintro e w' ⟨rfl, rfl⟩)
              go_roundw
              case rel => exact ⟨j + 1, by omega, by go_num, by rw [HSN.out, HS.out], HAN.out, hb2x⟩
              case measure => simp [intOf]; omega
        | false =>
          have hR : R = -1 := by
            rw [← HR.out]
            unfold defB
            rw [HNO.out rfl, Bool.and_false]
            rfl
          subst hR
          have hn : ¬ ((k = 3 ∧ 1 ≤ m ∧ m ≤ 125) ∨ ((k = 1 ∨ k = 2) ∧ mayB m = true)) := fun h => by have := hcase.2 h; cases this
          clear hcase hpi
          have HM := Lib.hid (may_any m)
          by_cases h3 : k = 3
          · subst h3
            by_cases m1 : 1 ≤ m
            · have m2 : ¬ m ≤ 125 := fun h => hn (Or.inl ⟨rfl, m1, h⟩)
              clear hn
              go_wp2_with fail
              go_ret
              exact ⟨rfl, hb1.trans (hb2x.mono hb1.size)⟩
            · clear hn
              go_wp2_with fail
              go_ret
              exact ⟨rfl, hb1.trans (hb2x.mono hb1.size)⟩
          · have t3 : (k == 3) = false := by simpa using h3
            by_cases k1 : k = 1
            · subst k1
              have hmay : mayB m = false := by cases h : mayB m with
                | false => rfl
                | true => exact (hn (Or.inr ⟨Or.inl rfl, h⟩)).elim
              rw [hmay] at HM
              clear hn hmay
              go_wp2_with (go_at_call 28; refine (HM.out _).mono ?_; rintro e w' ⟨rfl, rfl⟩)
              go_ret
              exact ⟨rfl, hb1.trans (hb2x.mono hb1.size)⟩
            · have t1 : (k == 1) = false := by simpa using k1
              by_cases k2 : k = 2
              · subst k2
                have hmay : mayB m = false := by cases h : mayB m with
                  | false => rfl
                  | true => exact (hn (Or.inr ⟨Or.inr rfl, h⟩)).elim
                rw [hmay] at HM
                clear hn hmay
                go_wp2_with (go_at_call 28; refine (HM.out _).mono ?_; rintro e w' ⟨rfl, rfl⟩)
                go_ret
                exact ⟨rfl, hb1.trans (hb2x.mono hb1.size)⟩
              · have t2 : (k == 2) = false := by simpa using k2
                clear hn HM
                go_wp2_with fail
                go_ret
                exact ⟨rfl, hb1.trans (hb2x.mono hb1.size)⟩
      · obtain rfl : j = n := by omega
        have ht : ps.take j = ps := List.take_of_length_le (by rw [HL.out]; exact Nat.le_refl _)
        rw [ht] at hall ⊢
        have hR : sumP ps = R := by
          rw [← HR.out]
          unfold defB
          rw [hall, HL.out, decide_eq_true HIN.out]
          rfl
        have HRR := Lib.hid hR
        clear hR ht hall hin
        go_wp2_with fail
        go_ret
        exact ⟨by rw [HRR.out]; rfl, hbrw⟩
  · have hR : R = -1 := by
      rw [← HR.out, def_no id ps (by rw [HL.out]; exact hd)]
      rfl
    subst hR
    by_cases h1 : id < 1
    · clear hd
      go_in
      go_wp2
      go_ret
      exact ⟨rfl, hb1⟩
    · by_cases h2 : id > 65534
      · clear hd
        go_in
        go_wp2
        go_ret
        exact ⟨rfl, hb1⟩
      · by_cases h3 : n = 0
        · subst h3
          clear hd
          go_in
          go_wp2
          go_ret
          exact ⟨rfl, hb1⟩
        · have t3 : ((n : Int) == 0) = false := by simp; omega
          have t4 : (n : Int) > 50 := by omega
          clear hd
          go_in
          go_wp2
          go_ret
          exact ⟨rfl, hb1⟩
end Go.Proofs.Ytnnknnaimabehaa
