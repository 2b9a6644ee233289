/- Blocks that are put behind others stand behind them: the law, walked. -/
import Derived.Test.YtnnknnaimabehaaModAlive
import Derived.Test.YtnnknnaimabehaaModJoinQ
import Derived.Test.YtnnknnaimabehaaModCells
import Derived.Test.YtnnknnaimabehaaModRow
namespace Go.Proofs.Ytnnknnaimabehaa
open Go.RowKit
set_option linter.unusedVariables false
set_option maxRecDepth 100000
theorem infoBlk : (Try.prog.info? 36).map (fun i => (i.zero, i.size, i.bytes)) = some (some (.agg #[.int .i64 0, .slice none 0 0, .slice none 0 0]), 3, 56) := by kernel_rfl
theorem image_len9 (bs : List BlkP) (X : List Int) (h : imageP bs = some X) : X.length ≤ 9000 := by
  obtain ⟨y, _, hy, hyl⟩ := image_some bs X h
  rw [hy]
  simp
  omega
theorem SlI.cell {w : World} {B : Nat} {k : IntKind} {g off n c : Nat} {xs : List Int} (h : SlI w B k (some ⟨g, off, none⟩) n c xs) {i : Nat} {x : Int} (hx : xs[i]? = some x) : w.cell? ⟨g, off + i, none⟩ = some (.int k x) := by
  obtain ⟨g', off', e, _, hc⟩ := h.2.2.2.2 (by have := (List.getElem?_eq_some_iff.1 hx).1; omega)
  injection e with e
  injection e with e1 e2
  subst e1 e2
  exact hc i x hx
set_option maxHeartbeats 4000000 in
theorem law_joins (A : Option Addr) (n c : Nat) (al : List BlkP) (A' : Option Addr) (n' c' : Nat) (bs : List BlkP) (w : World) (hA : BkI w w.heap.size A n c al) (hB : BkI w w.heap.size A' n' c' bs) (hs : partsN al ≤ 1048576) (hs' : partsN bs ≤ 1048576) :
    Calls Try.prog 4 #[.slice A n c, .slice A' n' c'] w fun e w' => e = .returned (.bool true) ∧ Below w.heap.size w w' := by
  obtain ⟨i0, hi, hz0, hz1, hz2⟩ := info_parts infoBlk
  have hl := hA.1
  have hl' := hB.1
  have hnp := partsN_len al
  have hnp' := partsN_len bs
  obtain ⟨ca, hca, hka⟩ := hA.cells
  obtain ⟨cb, hcb, hkb⟩ := hB.cells
  have HA := Lib.hid (fun (X : World) (h : Below w.heap.size w X) => hA.up h)
  have HB := Lib.hid (fun (X : World) (h : Below w.heap.size w X) => hB.up h)
  have HCA := Lib.hid (fun (X : World) (h : Below w.heap.size w X) => hca.up h)
  have HCB := Lib.hid (fun (X : World) (h : Below w.heap.size w X) => hcb.up h)
  have HKA := Lib.hid hka
  have HKB := Lib.hid hkb
  have HL := Lib.hid (And.intro hl hl')
  have HNP := Lib.hid (And.intro hnp hnp')
  have HS := Lib.hid (And.intro hs hs')
  clear hA hB hl hl' hnp hnp' hs hs' hca hcb hka hkb
  go_in
  go_wp2_with fail
  refine (alive_mod w).mono ?_
  rintro e w1 ⟨rfl, hb1⟩
  go_wp2_with fail
  refine (mgreat_any A n c al w1 (HA.out w1 hb1) HS.out.1).mono ?_
  rintro e w2 ⟨rfl, m2, hw2⟩
  have hb2 : Below w.heap.size w w2 := by rw [hw2]; exact below_drewN hb1 _
  clear hw2
  by_cases h3 : 3000 < partsN al
  · rw [if_pos h3]
    clear h3
    go_wp2_with fail
    go_ret
    exact ⟨rfl, hb2⟩
  rw [if_neg h3]
  have hn3 : n ≤ 3000 := by have h1 := HL.out.1; have h2 := HNP.out.1; omega
  clear h3
  go_wp2_with fail
  refine (mgreat_any A' n' c' bs w2 (HB.out w2 hb2) HS.out.2).mono ?_
  rintro e w3 ⟨rfl, m3, hw3⟩
  have hb3 : Below w.heap.size w w3 := by rw [hw3]; exact below_drewN hb2 _
  clear hw3
  by_cases h3 : 3000 < partsN bs
  · rw [if_pos h3]
    clear h3
    go_wp2_with fail
    go_ret
    exact ⟨rfl, hb3⟩
  rw [if_neg h3]
  have hn3' : n' ≤ 3000 := by have h1 := HL.out.2; have h2 := HNP.out.2; omega
  clear h3
  have hown0 : w3.ownsRow w3.heap.size 36 3 (.slice none 0 0) 0 [] := World.ownsRow_nil _ _ _ _
  have hza := hb3.size
  have HA1 := Lib.hid (show 0 + n ≤ maxLen ∧ (0 + n) * 56 ≤ 140737488355328 by unfold maxLen; omega)
  have HA2 := Lib.hid (show 0 + n + n' ≤ maxLen ∧ (0 + n + n') * 56 ≤ 140737488355328 by unfold maxLen; omega)
  have HO1 := Lib.hid HKA.out.one
  have HO2 := Lib.hid HKB.out.one
  have hca3 := HCA.out w3 hb3
  go_wp2_with (first
    | ((with_reducible refine at_append ?_); refine wpList_append_slv w3 rfl (.tmp 29) (.tmp 30) 22 rfl w3.heap.size 36 i0 (.agg #[.int .i64 0, .slice none 0 0, .slice none 0 0]) 3 56 Try.underlying22 hi hz0 hz1 hz2 rfl (by omega) _ 0 _ rfl hown0 w3.heap.size A n c ca rfl hca3 HO1.out HA1.out.1 HA1.out.2 (Nat.le_refl _) ?_; intro v4 w4 hO4 hg4 hv4; have hb4 : Below w3.heap.size w3 w4 := (Below.refl _ _).grown hg4 (Nat.le_refl _) (fun B hB => (hown0.lt B hB).1); have hb4w := hb3.trans (hb4.mono hza); have hcb4 := HCB.out w4 hb4w; have hz4 := hb4.size; clear hg4 hv4)
    | ((with_reducible refine at_append ?_); refine wpList_append_slv w4 rfl (.tmp 31) (.tmp 32) 22 rfl w3.heap.size 36 i0 (.agg #[.int .i64 0, .slice none 0 0, .slice none 0 0]) 3 56 Try.underlying22 hi hz0 hz1 hz2 rfl (by omega) _ (0 + n) _ rfl hO4 w4.heap.size A' n' c' cb rfl hcb4 HO2.out HA2.out.1 HA2.out.2 hz4 ?_; intro v5 w5 hO5 hg5 hv5; have hb5 : Below w3.heap.size w3 w5 := hb4.grown hg5 hz4 (fun B hB => (hO4.lt B hB).1); have hb5w := hb3.trans (hb5.mono hza); clear hg5 hv5))
  rw [List.nil_append, Nat.zero_add] at hO5
  obtain ⟨A2, c2, rfl, hall⟩ := BkI.of_own2 HKA.out HKB.out hb5w hO5
  have HALL := Lib.hid hall
  clear hall hO5 hO4 hcb4 hca3 hown0 hb4 hb4w hz4 hza hb5 HA1 HA2 HO1 HO2 hb1 hb2 hb3
  have HI1 := Lib.hid (image_own A n c al (by omega) w5 (HA.out w5 hb5w))
  have HI2 := Lib.hid (fun (X : World) (h : Below w.heap.size w X) => image_own A' n' c' bs (by omega) X (HB.out X h))
  have HI3 := Lib.hid (fun (X : World) (h : Below w5.heap.size w5 X) => image_own A2 (n + n') c2 (al ++ bs) (by omega) X (HALL.out.up h))
  have HJN := Lib.hid (join_none al bs)
  have HJL := Lib.hid (join_long al bs)
  have HJS := Lib.hid (join_some al bs)
  obtain ⟨o1, ho1⟩ : ∃ o, imageP al = o := ⟨_, rfl⟩
  obtain ⟨o2, ho2⟩ : ∃ o, imageP bs = o := ⟨_, rfl⟩
  obtain ⟨o3, ho3⟩ : ∃ o, imageP (al ++ bs) = o := ⟨_, rfl⟩
  rw [ho1] at HI1 HJN HJL HJS
  rw [ho2] at HI2 HJN HJL HJS
  rw [ho3] at HI3 HJN HJL HJS
  have HO1 := Lib.hid ho1
  have HO2 := Lib.hid ho2
  clear ho1 ho2 ho3
  go_wp2_with fail
  refine HI1.out.mono ?_
  rintro e w6 ⟨A6, n6, c6, er6, rfl, her6, hs6, hb6⟩
  have hb6w := hb5w.trans (hb6.mono hb5w.size)
  have HS6 := Lib.hid hs6
  have HER6 := Lib.hid her6
  clear hs6 her6
  go_wp2_with fail
  refine (HI2.out w6 hb6w).mono ?_
  rintro e w7 ⟨A7, n7, c7, er7, rfl, her7, hs7, hb7⟩
  have hb7x := hb6.trans (hb7.mono hb6.size)
  have HS7 := Lib.hid hs7
  have HER7 := Lib.hid her7
  clear hs7 her7
  go_wp2_with fail
  refine (HI3.out w7 hb7x).mono ?_
  rintro e w8 ⟨A8, n8, c8, er8, rfl, her8, hs8, hb8⟩
  have hb8w := hb5w.trans ((hb7x.trans (hb8.mono hb7x.size)).mono hb5w.size)
  have hb8x := hb7.trans (hb8.mono hb7.size)
  have HS8 := Lib.hid hs8
  have HER8 := Lib.hid her8
  clear hs8 her8 hb6 hb7x
  cases o1 with
  | none =>
    have h := HJN.out (Or.inl rfl)
    subst h
    obtain rfl : er6 = 260 := HER6.out
    obtain rfl : er8 = 260 := HER8.out
    go_wp2
    go_ret
    exact ⟨rfl, hb8w⟩
  | some X =>
    obtain rfl : er6 = 0 := HER6.out
    cases o2 with
    | none =>
      have h := HJN.out (Or.inr rfl)
      subst h
      obtain rfl : er7 = 260 := HER7.out
      obtain rfl : er8 = 260 := HER8.out
      go_wp2
      go_ret
      exact ⟨rfl, hb8w⟩
    | some Y =>
      obtain rfl : er7 = 0 := HER7.out
      have hX := (HS6.out X rfl).up hb8x
      have hY := (HS7.out Y rfl).up hb8
      have hlx := hX.1
      have hly := hY.1
      have hX9 := image_len9 al X HO1.out
      have hY9 := image_len9 bs Y HO2.out
      rw [hlx] at hX9
      rw [hly] at hY9
      by_cases hlen : n6 + n7 - 4 ≤ 9000
      · obtain ⟨Z, hZ, hz1, hz2, hz3, hz4, hz5⟩ := HJS.out X Y rfl rfl (by omega)
        subst hZ
        obtain rfl : er8 = 0 := HER8.out
        have hZ := HS8.out Z rfl
        obtain ⟨g6, o6, rfl, _⟩ := hX.some_ (by omega)
        obtain ⟨g7, o7, rfl, _⟩ := hY.some_ (by omega)
        have hlz := hZ.1
        obtain ⟨g8, o8, rfl, _⟩ := hZ.some_ (by omega)
        have k1 : ¬ ((n6 : Int) + (n7 : Int) - 4 > 9000) := by omega
        have k2 : IntKind.i64.wrap ((n6 : Int) + (n7 : Int)) = (n6 : Int) + (n7 : Int) := IntWalk.i64_in _ (by omega)
        have k3 : IntKind.i64.wrap ((n6 : Int) + (n7 : Int) - 4) = (n6 : Int) + (n7 : Int) - 4 := IntWalk.i64_in _ (by omega)
        have k4 : IntKind.i64.wrap ((n6 : Int) - 2) = (n6 : Int) - 2 := IntWalk.i64_in _ (by omega)
        have k5 : IntKind.i64.wrap ((n6 : Int) - 4) = (n6 : Int) - 4 := IntWalk.i64_in _ (by omega)
        have k6 : ((n8 : Int) != (n6 : Int) + (n7 : Int) - 4) = false := by simp; omega
        have HX := Lib.hid (fun (W : World) (h : Below w8.heap.size w8 W) (i : Nat) (x : Int) (hx : X[i]? = some x) => (hX.up h).cell hx)
        have HY := Lib.hid (fun (W : World) (h : Below w8.heap.size w8 W) (i : Nat) (x : Int) (hx : Y[i]? = some x) => (hY.up h).cell hx)
        have HZ := Lib.hid (fun (W : World) (h : Below w8.heap.size w8 W) (i : Nat) (x : Int) (hx : Z[i]? = some x) => (hZ.up h).cell hx)
        have HZ4 := Lib.hid hz4
        have HZ5 := Lib.hid hz5
        have HLX := Lib.hid hlx
        have HLY := Lib.hid hly
        have hn8 : n8 + 4 = n6 + n7 := by omega
        have hn6 : 4 ≤ n6 := by omega
        have hn7 : 4 ≤ n7 := by omega
        have HN8 := Lib.hid (And.intro hn8 (And.intro hn6 hn7))
        clear hX hY hZ hz1 hz2 hz3 hz4 hz5 hlx hly hlz hn8 hlen
        go_wp2
        go_loopw [13] (fun s13 wx => ∃ (i : Nat), i + 2 ≤ n6 ∧ s13 = .int .i64 i ∧ Below w8.heap.size w8 wx) (fun s13 _ => n6 - (intOf s13).toNat)
        case atStart => exact ⟨0, by omega, rfl, Below.refl _ _⟩
        case round =>
          obtain ⟨i, hi, rfl, hbr⟩ := hrel
          have h8 := HN8.out
          by_cases hlt : i + 2 < n6
          · obtain ⟨x, hx⟩ : ∃ x, X[i]? = some x := ⟨_, List.getElem?_eq_getElem (by rw [HLX.out]; omega)⟩
            have hzx := (HZ4.out i (by rw [HLX.out]; omega)).trans hx
            have d1 := HX.out wr hbr i x hx
            have d2 := HZ.out wr hbr i x hzx
            have t1 : (x != x) = false := by simp
            have t2 : (i : Int) < (n6 : Int) - 2 := by omega
            have t3 : (i : Int) < (n6 : Int) := by omega
            have t4 : (i : Int) < (n8 : Int) := by omega
            have t5 : i < n6 := by omega
            have t6 : i < n8 := by omega
            clear hx hzx h8
            go_wp2_with fail
            go_quiet (fail)
            go_wp2_with fail
            go_roundw
            case rel => exact ⟨i + 1, by omega, by go_num, below_drewN hbr _⟩
            case measure => simp [intOf]; omega
          · have t2 : ¬ (i : Int) < (n6 : Int) - 2 := by omega
            clear h8
            go_wp2_with fail
            go_loopw [14] (fun s14 wx => ∃ (j : Nat), 2 ≤ j ∧ j ≤ n7 ∧ s14 = .int .i64 j ∧ Below w8.heap.size w8 wx) (fun s14 _ => n7 - (intOf s14).toNat)
            case atStart => exact ⟨2, Nat.le_refl _, by omega, rfl, hbr⟩
            case round =>
              obtain ⟨j, hj2, hj, rfl, hbj⟩ := hrel
              have h8 := HN8.out
              by_cases hjt : j < n7
              · obtain ⟨y, hy⟩ : ∃ y, Y[j]? = some y := ⟨_, List.getElem?_eq_getElem (by rw [HLY.out]; omega)⟩
                have hzy := (HZ5.out j hj2 (by rw [HLY.out]; omega)).trans hy
                rw [HLX.out] at hzy
                have d1 := HY.out wr hbj j y hy
                have d2 := HZ.out wr hbj _ y hzy
                have t1 : (y != y) = false := by simp
                have t3 : (j : Int) < (n7 : Int) := by omega
                obtain ⟨q, hq⟩ : ∃ q, n6 - 4 + j = q := ⟨_, rfl⟩
                rw [hq] at d2
                have t4 : (n6 : Int) - 4 + (j : Int) = (q : Int) := by omega
                have t5 : IntKind.i64.wrap (q : Int) = (q : Int) := IntWalk.i64_in _ (by omega)
                have t6 : q < n8 := by omega
                have t7 : (q : Int) < (n8 : Int) := by omega
                clear hy hzy hq h8
                go_wp2_with fail
                go_quiet (fail)
                go_wp2_with fail
                go_roundw
                case rel => exact ⟨j + 1, by omega, by omega, by go_num, below_drewN hbj _⟩
                case measure => simp [intOf]; omega
              · obtain rfl : j = n7 := by omega
                clear h8
                go_wp2_with fail
                go_ret
                exact ⟨rfl, hb8w.trans (hbj.mono hb8w.size)⟩
      · have h := HJL.out X Y rfl rfl (by omega)
        subst h
        obtain rfl : er8 = 260 := HER8.out
        have k1 : (n6 : Int) + (n7 : Int) - 4 > 9000 := by omega
        have k2 : IntKind.i64.wrap ((n6 : Int) + (n7 : Int)) = (n6 : Int) + (n7 : Int) := IntWalk.i64_in _ (by omega)
        have k3 : IntKind.i64.wrap ((n6 : Int) + (n7 : Int) - 4) = (n6 : Int) + (n7 : Int) - 4 := IntWalk.i64_in _ (by omega)
        go_wp2
        go_ret
        exact ⟨rfl, hb8w⟩
end Go.Proofs.Ytnnknnaimabehaa
