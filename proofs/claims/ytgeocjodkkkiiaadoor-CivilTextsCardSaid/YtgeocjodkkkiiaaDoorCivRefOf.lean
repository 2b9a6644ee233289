/- The reference's Of; both at every day. -/
import Derived.Test.YtgeocjodkkkiiaaDoorCivOf
namespace Go.Proofs.YtgeocjodkkkiiaaDoor
open Go.RowKit

theorem results_tmp4 {fn : Func} {t u v x : Tmp} (h : fn.results = #[.tmp t, .tmp u, .tmp v, .tmp x]) (tmps : Array Value) (P : Program) (w : World) :
    (results fn tmps).run P w = .ok (.tuple #[tmps.getD t undef, tmps.getD u undef, tmps.getD v undef, tmps.getD x undef]) w := by simp [results, h]

theorem rof_no (n : Int) (h : n < 0 ∨ 2932896 < n) (w : World) : Calls Tryd.prog 15 #[.int .i64 n] w fun e w' => e = .returned (.tuple #[.int .i64 0, .int .i64 0, .int .i64 0, .int .i64 60]) ∧ w = w' := by
  rcases h with h | h
  · go_in
    go_wp2
    refine bodyPost_ret (results_tmp4 rfl _ _ _) rfl ?_
    exact ⟨rfl, rfl⟩
  · have h' : ¬ n < 0 := by omega
    go_in
    go_wp2
    refine bodyPost_ret (results_tmp4 rfl _ _ _) rfl ?_
    exact ⟨rfl, rfl⟩

def IsR (n : Int) (w : World) (e : Ending) (w' : World) : Prop := (∃ y m d, IsD n y m d ∧ e = .returned (.tuple #[.int .i64 y, .int .i64 m, .int .i64 d, .int .i64 0])) ∧ w = w'

set_option maxHeartbeats 4000000 in
theorem rof_yes (n : Int) (h0 : 0 ≤ n) (h1 : n ≤ 2932896) (w : World) : Calls Tryd.prog 15 #[.int .i64 n] w (IsR n w) := by
  have g1 : decide (n < 0) = false := by simpa using h0
  have g2 : decide (2932896 < n) = false := by simpa using h1
  go_in
  go_wp2
  go_loop [0, 6] (fun x v => ∃ y : Int, 1970 ≤ y ∧ y ≤ 9999 ∧ 0 ≤ n - aheadN y ∧ x = .int .i64 (n - aheadN y) ∧ v = .int .i64 y) (fun _ v => (9999 - intOf v).toNat)
  case atStart => exact ⟨1970, by omega, by omega, by rw [aheadN_start]; omega, by rw [aheadN_start]; simp, rfl⟩
  case round =>
    obtain ⟨y, hy1, hy2, hy3, rfl, rfl⟩ := hrel
    have HS := Lib.hid (aheadN_succ y)
    have hl := leapI_in y
    have hah := aheadN_le 1970 y (by omega)
    rw [aheadN_start] at hah
    by_cases hgo : y < 9999 ∧ 365 + leapI y ≤ n - aheadN y
    · obtain ⟨hlt, hge⟩ := hgo
      cases hb : leapB y with
      | true =>
        have HB := Lib.hid hb
        have hi : leapI y = 1 := by simp [leapI, hb]
        have hge' : ¬ n - aheadN y < 366 := by omega
        have HI := Lib.hid hi
        clear hb hi hge
        go_wp2_with (go_at_call 17; refine (leap_ref _ _).mono ?_; rintro e w' ⟨rfl, rfl⟩; rw [HB.out])
        go_round
        case rel => exact ⟨y + 1, by omega, by omega, by rw [HS.out, HI.out]; omega, iv (by rw [HS.out, HI.out]; omega), rfl⟩
        case measure => simp [intOf]; omega
      | false =>
        have HB := Lib.hid hb
        have hi : leapI y = 0 := by simp [leapI, hb]
        have hge' : ¬ n - aheadN y < 365 := by omega
        have HI := Lib.hid hi
        clear hb hi hge
        go_wp2_with (go_at_call 17; refine (leap_ref _ _).mono ?_; rintro e w' ⟨rfl, rfl⟩; rw [HB.out])
        go_round
        case rel => exact ⟨y + 1, by omega, by omega, by rw [HS.out, HI.out]; omega, iv (by rw [HS.out, HI.out]; omega), rfl⟩
        case measure => simp [intOf]; omega
    · have hq : n - aheadN y < 365 + leapI y := by
        rcases Int.lt_or_le y 9999 with h | h
        · omega
        · obtain rfl : y = 9999 := by omega
          have := aheadN_end
          have h3 := HS.out
          simp at h3
          omega
      have fin : ∀ (q : Int) (wo : World) (k : Fin 12), q = n - aheadN y - cumN y k.1 → n - aheadN y < cumN y (k.1 + 1) → 0 ≤ q → IsR n wo (.returned (.tuple #[.int .i64 y, .int .i64 ((k.1 : Int) + 1), .int .i64 (q + 1), .int .i64 0])) wo := by
        rintro q wo k rfl h4 h5
        exact ⟨⟨y, _, _, isD_of n y k hy1 hy2 (by omega) h4, rfl⟩, rfl⟩
      have FIN := Lib.hid fin
      have HQ := Lib.hid hq
      clear fin hq HS
      rcases (show (y < 9999 ∧ leapB y = true ∧ n - aheadN y < 366) ∨ (y < 9999 ∧ leapB y = false ∧ n - aheadN y < 365) ∨ ¬ y < 9999 by
        have hq := HQ.out
        by_cases h : y < 9999
        · cases hb : leapB y
          · simp [leapI, hb] at hq; simp [h]; omega
          · simp [leapI, hb] at hq; simp [h]; omega
        · simp [h]) with ⟨hlt, hb, hq2⟩ | ⟨hlt, hb, hq2⟩ | hlt
      all_goals first
        | (have HB := Lib.hid hb
           clear hb
           go_wp2_with (go_at_call 17; refine (leap_ref _ _).mono ?_; rintro e w' ⟨rfl, rfl⟩; rw [HB.out]))
        | go_wp2
      all_goals
        go_loop [0, 8] (fun x v => ∃ j : Nat, j < 12 ∧ 0 ≤ n - aheadN y - cumN y j ∧ x = .int .i64 (n - aheadN y - cumN y j) ∧ v = .int .i64 (j + 1)) (fun _ v => (12 - intOf v).toNat)
        case atStart => exact ⟨0, by omega, by simp [cumN]; omega, iv (by simp [cumN]), rfl⟩
        case round =>
          obtain ⟨j, hj, hj2, rfl, rfl⟩ := hrel
          have hcb := cumN_in y j
          have hdb := daysN_in y (j + 1)
          have HC := Lib.hid (show cumN y (j + 1) = cumN y j + daysN y (j + 1) from rfl)
          by_cases hgo2 : j < 11 ∧ daysN y (j + 1) ≤ n - aheadN y - cumN y j
          · obtain ⟨hj3, hge⟩ := hgo2
            go_wp2_with (go_at_call 19; refine (days_ref _ _ _).mono ?_; rintro e w' ⟨rfl, rfl⟩)
            go_round
            case rel => exact ⟨j + 1, by omega, by rw [HC.out]; omega, iv (by rw [HC.out]; omega), by go_num⟩
            case measure => simp [intOf]; omega
          · have hd : n - aheadN y < cumN y (j + 1) := by
              rcases Nat.lt_or_ge j 11 with h | h
              · rw [HC.out]; omega
              · obtain rfl : j = 11 := by omega
                have := HQ.out
                rw [cumN_12]; exact this
            have HD := Lib.hid hd
            have hd2 : n - aheadN y - cumN y j < daysN y (j + 1) := by have := HC.out; omega
            clear hd hgo2
            by_cases hj3 : j < 11
            · go_wp2_with (go_at_call 19; refine (days_ref _ _ _).mono ?_; rintro e w' ⟨rfl, rfl⟩)
              refine bodyPost_ret (results_tmp4 rfl _ _ _) rfl ?_
              exact FIN.out _ _ ⟨j, hj⟩ rfl HD.out hj2
            · go_wp2
              refine bodyPost_ret (results_tmp4 rfl _ _ _) rfl ?_
              exact FIN.out _ _ ⟨j, hj⟩ rfl HD.out hj2
end Go.Proofs.YtgeocjodkkkiiaaDoor
