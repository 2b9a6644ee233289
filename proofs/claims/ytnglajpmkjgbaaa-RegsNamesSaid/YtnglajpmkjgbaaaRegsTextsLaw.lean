/- The law RegsTexts: the walk. -/
import Derived.Test.YtnglajpmkjgbaaaRegsTextsSl
import Derived.Test.YtnglajpmkjgbaaaRegsBack
namespace Go.Proofs.Ytnglajpmkjgbaaa
open Go.RowKit

theorem frombytes_u (n : Nat) (ys : List Int) (hl : ys.length = n) (hn : n ≤ 1000000) (hy : ∀ y ∈ ys, 0 ≤ y ∧ y < 256) : ∃ (V : List Int) (q : Int) (nv : Nat), V.length = nv ∧ ((n % 2 = 1 ∧ q = 20 ∧ nv = 0) ∨ (n % 2 = 0 ∧ q = 0 ∧ 2 * nv = n)) ∧ (∀ k, k < nv → V[k]? = some (ys.getD (2 * k) 0 * 256 + ys.getD (2 * k + 1) 0)) ∧
    ∀ (A : Option Addr) (c : Nat) (w : World), SlI w w.heap.size .u8 A n c ys → Calls Try.prog 23 #[.slice A n c] w fun e w' => ∃ A' c', e = .returned (.tuple #[.slice A' nv c', .int .i64 q]) ∧ SlI w' w'.heap.size .u16 A' nv c' V ∧ Below w.heap.size w w' := by
  rcases Nat.mod_two_eq_zero_or_one n with h | h
  · obtain ⟨m, rfl⟩ : ∃ m, n = 2 * m := ⟨n / 2, by omega⟩
    have hwl : (wordsK ys (List.finRange m)).length = m := by simp [wordsK]
    refine ⟨wordsK ys (List.finRange m), 0, m, hwl, Or.inr ⟨h, rfl, rfl⟩, fun k hk => ?_, fun A c w hS => ?_⟩
    · rw [wordsK, List.getElem?_map, List.getElem?_eq_getElem (by rw [List.length_finRange]; exact hk), List.getElem_finRange]
      rfl
    · refine (frombytes_even A (2 * m) c m ys rfl hn hy w hS).mono ?_
      rintro e w' ⟨A', k, c', rfl, hS', hb⟩
      obtain rfl : k = m := by rw [← hS'.1, hwl]
      exact ⟨A', c', rfl, hS', hb⟩
  · refine ⟨[], 20, 0, rfl, Or.inl ⟨h, rfl, rfl⟩, fun k hk => by omega, fun A c w hS => ?_⟩
    refine (frombytes_odd A n c h hn w).mono ?_
    rintro e w' ⟨rfl, rfl⟩
    exact ⟨none, 0, rfl, SlI.nil _ _ _, Below.refl _ _⟩

theorem bytesI_at (xs : List Int) (k : Nat) (x : Int) (h : xs[k]? = some x) : (bytesI xs)[2 * k]? = some (x / 256) ∧ (bytesI xs)[2 * k + 1]? = some (x % 256) := by
  induction xs generalizing k with
  | nil => simp at h
  | cons a xs ih =>
    show ([a / 256, a % 256] ++ bytesI xs)[2 * k]? = _ ∧ ([a / 256, a % 256] ++ bytesI xs)[2 * k + 1]? = _
    cases k with
    | zero =>
      have : a = x := by simpa using h
      subst this
      exact ⟨rfl, rfl⟩
    | succ k =>
      have := ih k (by simpa using h)
      exact ⟨this.1, this.2⟩

set_option maxRecDepth 100000 in
set_option maxHeartbeats 8000000 in
theorem law_texts (s : ByteArray) (many : Int) (A2 : Option Addr) (n2 c2 : Nat) (xs : List Int) (A3 : Option Addr) (n3 c3 : Nat) (ys : List Int) (w : World)
    (hS2 : SlI w w.heap.size .u16 A2 n2 c2 xs) (hx : InReg xs) (hS3 : SlI w w.heap.size .u8 A3 n3 c3 ys) (hy : ∀ y ∈ ys, 0 ≤ y ∧ y < 256) :
    Calls Try.prog 6 #[.string s, .int .i64 many, .slice A2 n2 c2, .slice A3 n3 c3] w fun e w' => e = .returned (.bool true) ∧ Below w.heap.size w w' := by
  by_cases h1 : 400 < s.size
  · go_in; go_wp2; go_ret; exact ⟨rfl, Below.refl _ _⟩
  by_cases h2 : 200 < n2
  · go_in; go_wp2; go_ret; exact ⟨rfl, Below.refl _ _⟩
  by_cases h3 : 400 < n3
  · go_in; go_wp2; go_ret; exact ⟨rfl, Below.refl _ _⟩
  obtain ⟨T, e0, hT1, hT2, hT⟩ := txt_is s many
  obtain ⟨S, hSS⟩ := fromtexts_sl xs n2 hS2.1 (by omega) hx
  obtain ⟨V, q, nv, hV1, hV2, hV3, hV4⟩ := frombytes_u n3 ys hS3.1 (by omega) hy
  have HS2 := Lib.hid hS2
  have HS3 := Lib.hid hS3
  have HX := Lib.hid hx
  have HY := Lib.hid hy
  have HT := Lib.hid hT
  have HSS := Lib.hid hSS
  have HV3 := Lib.hid hV3
  have HV4 := Lib.hid hV4
  have k1 : s.size ≤ 400 := by omega
  have k2 : n2 ≤ 200 := by omega
  have k3 : n3 ≤ 400 := by omega
  have hnv : nv ≤ 400 := by omega
  have hl3 := hS3.1
  have HL3 := Lib.hid hl3
  have hl2 := hS2.1
  have HL2 := Lib.hid hl2
  clear hS2 hS3 hx hy hT hSS hV1 hV3 hV4 hT1 hT2 h1 h2 h3 hl3 hl2
  have HV2 := Lib.hid hV2
  have par : (((n3 : Int) % 2 != 0) = true ∧ ((n3 : Int) % 2 == 0) = false ∧ q = 20 ∧ nv = 0) ∨ (((n3 : Int) % 2 != 0) = false ∧ ((n3 : Int) % 2 == 0) = true ∧ q = 0 ∧ 2 * (nv : Int) = n3) := by
    rcases hV2 with ⟨h, h', h''⟩ | ⟨h, h', h''⟩
    · exact Or.inl ⟨by simp; omega, by simp; omega, h', h''⟩
    · exact Or.inr ⟨by simp; omega, by simp; omega, h', by omega⟩
  clear hV2
  go_in
  go_wp2_with fail
  go_at_call 20
  refine (text_any s many _).mono ?_
  intro e w1 hp1
  obtain ⟨A4, n4, c4, rfl, hS4, hb1⟩ := HT.out _ _ _ hp1
  clear hp1
  have HS2 := Lib.hid (HS2.out.up hb1)
  have HS3 := Lib.hid (HS3.out.up hb1)
  have HS4 := Lib.hid hS4
  clear hS4
  go_wp2_with fail
  go_at_call 21
  refine (reftext_any s many _).mono ?_
  intro e w2 hp2
  obtain ⟨A5, n5, c5, rfl, hS5, hb2⟩ := HT.out _ _ _ hp2
  clear hp2
  have HS2 := Lib.hid (HS2.out.up hb2)
  have HS3 := Lib.hid (HS3.out.up hb2)
  have HS4 := Lib.hid (HS4.out.up hb2)
  have HS5 := Lib.hid hS5
  clear hS5
  go_wp2_with fail
  go_at_call 22
  refine (bytes_sl A2 n2 c2 xs _ HS2.out HX.out (by omega)).mono ?_
  rintro e w3 ⟨A6, n6, c6, rfl, hS6, hb3⟩
  obtain rfl : n6 = 2 * n2 := by rw [← hS6.1, bytesI_len, HL2.out]
  have HS2 := Lib.hid (HS2.out.up hb3)
  have HS3 := Lib.hid (HS3.out.up hb3)
  have HS4 := Lib.hid (HS4.out.up hb3)
  have HS5 := Lib.hid (HS5.out.up hb3)
  have HS6 := Lib.hid hS6
  clear hS6
  go_wp2_with fail
  go_at_call 23
  refine (HV4.out A3 c3 _ HS3.out).mono ?_
  rintro e w4 ⟨A7, c7, rfl, hS7, hb4⟩
  have HS2 := Lib.hid (HS2.out.up hb4)
  have HS3 := Lib.hid (HS3.out.up hb4)
  have HS4 := Lib.hid (HS4.out.up hb4)
  have HS5 := Lib.hid (HS5.out.up hb4)
  have HS6 := Lib.hid (HS6.out.up hb4)
  have HS7 := Lib.hid hS7
  clear hS7
  go_wp2_with fail
  go_at_call 18
  refine (same_sl A4 A5 n4 n5 c4 c5 T T _ HS4.out HS5.out).mono ?_
  rintro e w5 ⟨rfl, q5, rfl⟩
  rw [decide_eq_true (rfl : T = T)]
  go_wp2_with fail
  go_at_call 24
  refine ((HSS.out A2 c2 _ (HS2.out.drewN q5)).1).mono ?_
  rintro e w6 ⟨rfl, hb6⟩
  have hb46 : Below w4.heap.size w4 w6 := (below_drewN (Below.refl _ _) q5).trans hb6
  have HS2 := Lib.hid (HS2.out.up hb46)
  have HS3 := Lib.hid (HS3.out.up hb46)
  have HS6 := Lib.hid (HS6.out.up hb46)
  have HS7 := Lib.hid (HS7.out.up hb46)
  go_wp2_with fail
  go_at_call 25
  refine ((HSS.out A2 c2 _ HS2.out).2).mono ?_
  rintro e w7 ⟨rfl, hb7⟩
  have HS2 := Lib.hid (HS2.out.up hb7)
  have HS3 := Lib.hid (HS3.out.up hb7)
  have HS6 := Lib.hid (HS6.out.up hb7)
  have HS7 := Lib.hid (HS7.out.up hb7)
  have hbw := below_step (below_step (below_step (below_step (below_step (below_step hb1 hb2) hb3) hb4) hb46) hb7) (Below.refl _ _)
  have hcap6 := HS6.out.2.1
  clear hb1 hb2 hb3 hb4 hb6 hb46 hb7
  have PAR := Lib.hid par
  rcases par with ⟨p1, p2, rfl, rfl⟩ | ⟨p1, p2, rfl, p3⟩
  · go_wp2_with fail
    go_loopw [16] (fun i wr => ∃ (k r : Nat), k ≤ n2 ∧ i = .int .i64 k ∧ wr = w7.drewN r) (fun i _ => n2 - (intOf i).toNat)
    case atStart => exact ⟨0, 0, by omega, rfl, rfl⟩
    case round =>
      obtain ⟨k, r, hk, rfl, rfl⟩ := hrel
      by_cases hlt : k < n2
      · obtain ⟨g2, o2, x, rfl, _, hx2, hcx⟩ := HS2.out.2.2.2.2.at_ (i := k) (by rw [HL2.out]; exact hlt)
        have hxin := HX.out x (List.mem_of_getElem? hx2)
        obtain ⟨e1, e2⟩ := bytesI_at xs k x hx2
        obtain ⟨g6, o6, y1, rfl, _, hy1, hc1⟩ := HS6.out.2.2.2.2.at_ (i := 2 * k) (by rw [bytesI_len, HL2.out]; omega)
        obtain ⟨g6', o6', y2, hg6, _, hy2, hc2⟩ := HS6.out.2.2.2.2.at_ (i := 2 * k + 1) (by rw [bytesI_len, HL2.out]; omega)
        injection hg6 with hg6; injection hg6 with hg6 ho6; subst hg6; subst ho6
        rw [e1] at hy1; injection hy1 with hy1
        rw [e2] at hy2; injection hy2 with hy2
        have hyx : y1 * 256 + y2 = x := by omega
        have b1 : 0 ≤ y1 ∧ y1 < 256 := by omega
        have b2 : 0 ≤ y2 ∧ y2 < 256 := by omega
        clear hx2 e1 e2 hy1 hy2
        subst hyx
        go_wp2_with fail
        have a1 : IntKind.i64.wrap (2 * (k : Int)) = 2 * (k : Int) := IntWalk.i64_in _ (by omega)
        have a2 : IntKind.i64.wrap (2 * (k : Int) + 1) = 2 * (k : Int) + 1 := IntWalk.i64_in _ (by omega)
        have a3 : (0 : Int) ≤ 2 * (k : Int) := by omega
        have a4 : 2 * (k : Int) < 2 * (n2 : Int) := by omega
        have a5 : (0 : Int) ≤ 2 * (k : Int) + 1 := by omega
        have a6 : 2 * (k : Int) + 1 < 2 * (n2 : Int) := by omega
        have a7 : (2 * (k : Int)).toNat = 2 * k := by omega
        have a8 : (2 * (k : Int) + 1).toNat = 2 * k + 1 := by omega
        have a9 : (k : Int) < (n2 : Int) := by omega
        have d1 : IntKind.u16.wrap y1 = y1 := IntWalk.u16_in _ (by omega)
        have d2 : IntKind.u16.wrap y2 = y2 := IntWalk.u16_in _ (by omega)
        have d3 : IntKind.u16.wrap (y1 * 256) = y1 * 256 := IntWalk.u16_in _ (by omega)
        have d4 : IntKind.u16.wrap (y1 * 256 + y2) = y1 * 256 + y2 := IntWalk.u16_in _ (by omega)
        go_quiet (fail)
        clear a1 a2 a3 a4 a5 a6 a7 a8 d1 d2 d3 d4
        go_wp2_with fail
        go_roundw
        case rel => exact ⟨k + 1, _, by omega, by go_num, rfl⟩
        case measure => simp [intOf]; omega
      · obtain rfl : k = n2 := by omega
        go_wp2_with fail
        go_loopw [17] (fun i wr => i = .int .i64 0 ∧ wr = w7.drewN r) (fun i _ => 0)
        case atStart => exact ⟨rfl, rfl⟩
        case round =>
          obtain ⟨rfl, rfl⟩ := hrel
          go_wp2_with fail
          go_ret
          exact ⟨rfl, below_drewN hbw r⟩
  · go_wp2_with fail
    go_loopw [16] (fun i wr => ∃ (k r : Nat), k ≤ n2 ∧ i = .int .i64 k ∧ wr = w7.drewN r) (fun i _ => n2 - (intOf i).toNat)
    case atStart => exact ⟨0, 0, by omega, rfl, rfl⟩
    case round =>
      obtain ⟨k, r, hk, rfl, rfl⟩ := hrel
      by_cases hlt : k < n2
      · obtain ⟨g2, o2, x, rfl, _, hx2, hcx⟩ := HS2.out.2.2.2.2.at_ (i := k) (by rw [HL2.out]; exact hlt)
        have hxin := HX.out x (List.mem_of_getElem? hx2)
        obtain ⟨e1, e2⟩ := bytesI_at xs k x hx2
        obtain ⟨g6, o6, y1, rfl, _, hy1, hc1⟩ := HS6.out.2.2.2.2.at_ (i := 2 * k) (by rw [bytesI_len, HL2.out]; omega)
        obtain ⟨g6', o6', y2, hg6, _, hy2, hc2⟩ := HS6.out.2.2.2.2.at_ (i := 2 * k + 1) (by rw [bytesI_len, HL2.out]; omega)
        injection hg6 with hg6; injection hg6 with hg6 ho6; subst hg6; subst ho6
        rw [e1] at hy1; injection hy1 with hy1
        rw [e2] at hy2; injection hy2 with hy2
        have hyx : y1 * 256 + y2 = x := by omega
        have b1 : 0 ≤ y1 ∧ y1 < 256 := by omega
        have b2 : 0 ≤ y2 ∧ y2 < 256 := by omega
        clear hx2 e1 e2 hy1 hy2
        subst hyx
        go_wp2_with fail
        have a1 : IntKind.i64.wrap (2 * (k : Int)) = 2 * (k : Int) := IntWalk.i64_in _ (by omega)
        have a2 : IntKind.i64.wrap (2 * (k : Int) + 1) = 2 * (k : Int) + 1 := IntWalk.i64_in _ (by omega)
        have a3 : (0 : Int) ≤ 2 * (k : Int) := by omega
        have a4 : 2 * (k : Int) < 2 * (n2 : Int) := by omega
        have a5 : (0 : Int) ≤ 2 * (k : Int) + 1 := by omega
        have a6 : 2 * (k : Int) + 1 < 2 * (n2 : Int) := by omega
        have a7 : (2 * (k : Int)).toNat = 2 * k := by omega
        have a8 : (2 * (k : Int) + 1).toNat = 2 * k + 1 := by omega
        have a9 : (k : Int) < (n2 : Int) := by omega
        have d1 : IntKind.u16.wrap y1 = y1 := IntWalk.u16_in _ (by omega)
        have d2 : IntKind.u16.wrap y2 = y2 := IntWalk.u16_in _ (by omega)
        have d3 : IntKind.u16.wrap (y1 * 256) = y1 * 256 := IntWalk.u16_in _ (by omega)
        have d4 : IntKind.u16.wrap (y1 * 256 + y2) = y1 * 256 + y2 := IntWalk.u16_in _ (by omega)
        go_quiet (fail)
        clear a1 a2 a3 a4 a5 a6 a7 a8 d1 d2 d3 d4
        go_wp2_with fail
        go_roundw
        case rel => exact ⟨k + 1, _, by omega, by go_num, rfl⟩
        case measure => simp [intOf]; omega
      · obtain rfl : k = n2 := by omega
        have hn3 : n3 = 2 * nv := by omega
        subst hn3
        clear p1 p2 p3
        go_wp2_with fail
        go_loopw [17] (fun i wr => ∃ (j r : Nat), j ≤ nv ∧ i = .int .i64 j ∧ wr = w7.drewN r) (fun i _ => nv - (intOf i).toNat)
        case atStart => exact ⟨0, r, by omega, rfl, rfl⟩
        case round =>
          obtain ⟨j, r, hj, rfl, rfl⟩ := hrel
          by_cases hlt2 : j < nv
          · obtain ⟨g7, o7, x, rfl, _, hx7, hcx⟩ := HS7.out.2.2.2.2.at_ (i := j) (by rw [HS7.out.1]; exact hlt2)
            obtain ⟨g3, o3, y1, rfl, _, hy1, hc1⟩ := HS3.out.2.2.2.2.at_ (i := 2 * j) (by rw [HL3.out]; omega)
            obtain ⟨g3', o3', y2, hg3, _, hy2, hc2⟩ := HS3.out.2.2.2.2.at_ (i := 2 * j + 1) (by rw [HL3.out]; omega)
            injection hg3 with hg3; injection hg3 with hg3 ho3; subst hg3; subst ho3
            have hv := HV3.out j hlt2
            rw [hx7, List.getD, List.getD, hy1, hy2] at hv
            have hyx : x = y1 * 256 + y2 := by injection hv
            have b1 := HY.out y1 (List.mem_of_getElem? hy1)
            have b2 := HY.out y2 (List.mem_of_getElem? hy2)
            clear hx7 hy1 hy2 hv
            subst hyx
            go_wp2_with fail
            have a1 : IntKind.i64.wrap (2 * (j : Int)) = 2 * (j : Int) := IntWalk.i64_in _ (by omega)
            have a2 : IntKind.i64.wrap (2 * (j : Int) + 1) = 2 * (j : Int) + 1 := IntWalk.i64_in _ (by omega)
            have a3 : (0 : Int) ≤ 2 * (j : Int) := by omega
            have a4 : 2 * (j : Int) < 2 * (nv : Int) := by omega
            have a5 : (0 : Int) ≤ 2 * (j : Int) + 1 := by omega
            have a6 : 2 * (j : Int) + 1 < 2 * (nv : Int) := by omega
            have a7 : (2 * (j : Int)).toNat = 2 * j := by omega
            have a8 : (2 * (j : Int) + 1).toNat = 2 * j + 1 := by omega
            have a9 : (j : Int) < (nv : Int) := by omega
            have d1 : IntKind.u16.wrap y1 = y1 := IntWalk.u16_in _ (by omega)
            have d2 : IntKind.u16.wrap y2 = y2 := IntWalk.u16_in _ (by omega)
            have d3 : IntKind.u16.wrap (y1 * 256) = y1 * 256 := IntWalk.u16_in _ (by omega)
            have d4 : IntKind.u16.wrap (y1 * 256 + y2) = y1 * 256 + y2 := IntWalk.u16_in _ (by omega)
            go_quiet (fail)
            clear a1 a2 a3 a4 a5 a6 a7 a8 d1 d2 d3 d4
            go_wp2_with fail
            go_roundw
            case rel => exact ⟨j + 1, _, by omega, by go_num, rfl⟩
            case measure => simp [intOf]; omega
          · obtain rfl : j = nv := by omega
            go_wp2_with fail
            go_ret
            exact ⟨rfl, below_drewN hbw r⟩
end Go.Proofs.Ytnglajpmkjgbaaa
