/- kilowattref02.Value. -/
import Derived.Test.YtnnknnaimabehaaRegsRefWords
namespace Go.Proofs.Ytnnknnaimabehaa
open Go.RowKit
set_option maxRecDepth 100000

def byteAt (xs : List Int) (j : Nat) : Int := if j % 2 = 1 then xs.getD (j / 2) 0 % 256 else xs.getD (j / 2) 0 / 256
def fillP (xs : List Int) (n : Nat) (o : Int) : Nat → List Int
  | 0 => List.replicate n 0
  | j + 1 => (fillP xs n o j).set (placeN j n o) (byteAt xs j)
theorem fillP_len (xs : List Int) (n : Nat) (o : Int) (j : Nat) : (fillP xs n o j).length = n := by induction j with | zero => simp [fillP] | succ j ih => simp [fillP, ih]
theorem fillP_in (xs : List Int) (n : Nat) (o : Int) (hx : ∀ x ∈ xs, 0 ≤ x ∧ x < 65536) (j : Nat) : ∀ x ∈ fillP xs n o j, 0 ≤ x ∧ x < 256 := by
  induction j with
  | zero => intro x h; simp [fillP] at h; omega
  | succ j ih =>
    intro x h
    rw [fillP] at h
    rcases List.mem_or_eq_of_mem_set h with h | rfl
    · exact ih x h
    · have : 0 ≤ xs.getD (j / 2) 0 ∧ xs.getD (j / 2) 0 < 65536 := by
        rw [List.getD]
        cases h : xs[j / 2]? with
        | none => simp
        | some y => exact hx y (List.mem_of_getElem? h)
      unfold byteAt
      split <;> omega
def val8 (l : List Int) : Int := l.foldl (fun a x => a * 256 + x) 0
theorem val8_snoc (l : List Int) (x : Int) : val8 (l ++ [x]) = val8 l * 256 + x := by simp [val8]
theorem val8_in (l : List Int) (h : ∀ x ∈ l, 0 ≤ x ∧ x < 256) : 0 ≤ val8 l ∧ val8 l < 256 ^ l.length := by
  obtain ⟨r, hr⟩ : ∃ r, r = l.reverse := ⟨_, rfl⟩
  obtain rfl : l = r.reverse := by rw [hr, List.reverse_reverse]
  clear hr
  induction r with
  | nil => simp [val8]
  | cons a r ih =>
    simp only [List.reverse_cons] at h ⊢
    have h1 := ih (fun x hx => h x (by simp at hx ⊢; exact .inl hx))
    have h2 := h a (by simp)
    rw [val8_snoc, List.length_append, List.length_singleton, Int.pow_succ]
    omega
theorem value_same (xs : List Int) (o : Int) (hk : xs.length = 1 ∨ xs.length = 2 ∨ xs.length = 4) (ho : knownB o = true) (hx : ∀ x ∈ xs, 0 ≤ x ∧ x < 65536) :
    val8 (fillP xs (2 * xs.length) o (2 * xs.length)) = valN (turnL o xs) := by
  have : o = 1 ∨ o = 2 ∨ o = 3 ∨ o = 4 := by simp [knownB] at ho; omega
  rcases hk with h | h | h
  · match xs, h with
    | [a], _ =>
      simp at hx
      rcases this with rfl | rfl | rfl | rfl <;> simp [fillP, byteAt, placeN, turnL, valN, val8, swapB, List.replicate_succ] <;> omega
  · match xs, h with
    | [a, b], _ =>
      simp at hx
      rcases this with rfl | rfl | rfl | rfl <;> simp [fillP, byteAt, placeN, turnL, valN, val8, swapB, List.replicate_succ] <;> omega
  · match xs, h with
    | [a, b, c, d], _ =>
      simp at hx
      rcases this with rfl | rfl | rfl | rfl <;> simp [fillP, byteAt, placeN, turnL, valN, val8, swapB, List.replicate_succ] <;> omega

theorem refvalue_no (A : Option Addr) (n c : Nat) (o : Int) (w : World) (h : valB n o = false) :
    Calls Try.prog 48 #[.slice A n c, .int .i64 o] w fun e w' => e = .returned (.tuple #[.int .u64 0, .int .i64 20]) ∧ w = w' := by
  cases hm : mayB n with
  | false =>
    have HM := Lib.hid hm
    clear hm h
    go_in
    go_wp2_with (go_at_call 28; refine (may_any n _).mono ?_; rintro e w' ⟨rfl, rfl⟩; rw [HM.out])
    go_ret2
    exact ⟨rfl, rfl⟩
  | true =>
    have hn : n = 1 ∨ n = 2 ∨ n = 4 := by simp [mayB] at hm; omega
    have hk : knownB o = false := by simpa [valB, hn] using h
    have HM := Lib.hid hm
    have HK := Lib.hid hk
    clear hm h hn
    by_cases h1 : o < 1
    · have ho1 : decide (o < 1) = true := by simpa using h1
      clear hk
      go_in
      go_wp2_with (go_at_call 28; refine (may_any n _).mono ?_; rintro e w' ⟨rfl, rfl⟩; rw [HM.out])
      go_ret2
      exact ⟨rfl, rfl⟩
    · have ho1 : decide (o < 1) = false := by simpa using h1
      have ho4 : decide (4 < o) = true := by simp [knownB] at hk; simp; omega
      clear hk
      go_in
      go_wp2_with (go_at_call 28; refine (may_any n _).mono ?_; rintro e w' ⟨rfl, rfl⟩; rw [HM.out])
      go_ret2
      exact ⟨rfl, rfl⟩

theorem refvalue_yes (A : Option Addr) (n c : Nat) (xs : List Int) (o : Int) (w : World) (hR : RdI w w.heap.size .u16 A xs) (hn : xs.length = n) (hx : ∀ x ∈ xs, 0 ≤ x ∧ x < 65536) (h : valB n o = true) :
    Calls Try.prog 48 #[.slice A n c, .int .i64 o] w fun e w' => e = .returned (.tuple #[.int .u64 (val8 (fillP xs (2 * n) o (2 * n))), .int .i64 0]) ∧ Below w.heap.size w w' := by
  simp only [valB, Bool.and_eq_true, decide_eq_true_eq] at h
  obtain ⟨hm, hk⟩ := h
  have hmay : mayB n = true := by simp only [mayB, decide_eq_true_eq]; omega
  have ho1 : decide (o < 1) = false := by simp [knownB] at hk; simp; omega
  have ho4 : decide (4 < o) = false := by simp [knownB] at hk; simp; omega
  have hn4 : n ≤ 4 := by omega
  have hn1 : 1 ≤ n := by omega
  obtain ⟨i8, hi8, hy0, hy1, hy2⟩ := info_parts infoU8
  have HM := Lib.hid hmay
  have HK := Lib.hid hk
  have HR := Lib.hid hR
  have HN := Lib.hid hn
  have HX := Lib.hid hx
  clear hmay hk hm hR hn hx
  go_in
  go_wp2_with (first
    | (go_at_call 28; refine (may_any n _).mono ?_; rintro e w' ⟨rfl, rfl⟩; rw [HM.out])
    | (at_make; refine wpList_make_full _ rfl _ _ 94 rfl w.heap.size 5 i8 (.int .u8 0) 1 Try.underlying94 hi8 hy0 hy1 _ _ _ _ (2 * n) rfl rfl (by omega) (by omega) (by rw [hy2]; omega) (by unfold maxLen; omega) (Nat.le_refl _) ?_; intro w1 hown1 hgrow1))
  have hown1 : w1.ownsRow w.heap.size 5 1 (.slice (some ⟨w.heap.size, 0, none⟩) (2 * n) (2 * n)) (2 * n) ((fillP xs (2 * n) o 0).map (.int .u8)) := by
    simpa [fillP, toList_madeCells_one, Value.cells] using hown1
  go_loopw [8] (fun i wr => ∃ j : Nat, j ≤ 2 * n ∧ i = .int .i64 j ∧ wr.ownsRow w.heap.size 5 1 (.slice (some ⟨w.heap.size, 0, none⟩) (2 * n) (2 * n)) (2 * n) ((fillP xs (2 * n) o j).map (.int .u8)) ∧ Below w.heap.size w wr) (fun i _ => 2 * n - (intOf i).toNat)
  case atStart => exact ⟨0, by omega, rfl, hown1, (Below.refl _ _).grown hgrow1 (Nat.le_refl _) (fun k hk => by cases hk)⟩
  case round =>
    obtain ⟨j, hj, rfl, hown, hb⟩ := hrel
    by_cases hlt : j < 2 * n
    · obtain ⟨g, off, x, rfl, hgl, hx, hc0⟩ := (HR.out.below hb).at_ (i := j / 2) (by rw [HN.out]; omega)
      obtain ⟨hx0, hx1⟩ := HX.out x (List.mem_of_getElem? hx)
      have hg : xs.getD (j / 2) 0 = x := by simp [List.getD, hx]
      have HG := Lib.hid hg
      have hp := placeN_lt j (2 * n) o (by omega) hlt
      have hs : fillP xs (2 * n) o (j + 1) = (fillP xs (2 * n) o j).set (placeN j (2 * n) o) (byteAt xs j) := rfl
      unfold byteAt at hs
      rw [hg] at hs
      have HS := Lib.hid hs
      generalize hP : placeN j (2 * n) o = p at hp HS
      have HP := Lib.hid hP
      obtain ⟨y, _, hcy, hfy⟩ := own_at hown (i := p) (by rw [fillP_len]; exact hp)
      have wq : IntKind.u16.wrap (x.tdiv 256) = x / 256 := by rw [Int.tdiv_eq_ediv_of_nonneg hx0]; exact IntWalk.u16_in _ (by omega)
      clear hx hg hs hP
      by_cases hodd : j % 2 = 1
      · have HO := Lib.hid hodd
        have hb1 : ((j : Int) % 2 == 1) = true := by simp; omega
        clear hodd
        go_wp2_with (go_at_call 52; refine (place_at j (2 * (n : Int)) o j (2 * n) p rfl (by omega) HK.out (by omega) hlt (by omega) HP.out _).mono ?_; rintro e w' ⟨rfl, rfl⟩)
        go_roundw
        case rel =>
          refine ⟨j + 1, by omega, by go_num, ?_, hb.setCell (p := ⟨w.heap.size, p, none⟩) (Nat.le_refl _) _⟩
          rw [HS.out, if_pos HO.out]
          exact own_set hown p _
        case measure => simp [intOf]; omega
      · have HO := Lib.hid hodd
        have hb1 : ((j : Int) % 2 == 1) = false := by simp; omega
        clear hodd
        go_wp2_with (go_at_call 52; refine (place_at j (2 * (n : Int)) o j (2 * n) p rfl (by omega) HK.out (by omega) hlt (by omega) HP.out _).mono ?_; rintro e w' ⟨rfl, rfl⟩)
        go_roundw
        case rel =>
          refine ⟨j + 1, by omega, by go_num, ?_, hb.setCell (p := ⟨w.heap.size, p, none⟩) (Nat.le_refl _) _⟩
          rw [HS.out, if_neg HO.out]
          exact own_set hown p _
        case measure => simp [intOf]; omega
    · obtain rfl : j = 2 * n := by omega
      have HYX := Lib.hid (fillP_in xs (2 * n) o HX.out (2 * n))
      have HYL := Lib.hid (fillP_len xs (2 * n) o (2 * n))
      generalize hys : fillP xs (2 * n) o (2 * n) = ys at hown HYX HYL
      have HYS := Lib.hid hys
      clear hys
      go_wp2
      go_loop [10, 11] (fun v i => ∃ k : Nat, k ≤ 2 * n ∧ i = .int .i64 k ∧ v = .int .u64 (val8 (ys.take k))) (fun _ i => 2 * n - (intOf i).toNat)
      case atStart => exact ⟨0, by omega, rfl, rfl⟩
      case round =>
        obtain ⟨k, hk, rfl, rfl⟩ := hrel
        by_cases hlt : k < 2 * n
        · obtain ⟨x, hx, hcx, _⟩ := own_at hown (i := k) (by rw [HYL.out]; exact hlt)
          obtain ⟨hx0, hx1⟩ := HYX.out x (List.mem_of_getElem? hx)
          obtain ⟨hv0, hv1⟩ := val8_in (ys.take k) (fun y hy => HYX.out y (List.mem_of_mem_take hy))
          have hv2 : val8 (ys.take k) < 72057594037927936 := by
            refine Int.lt_of_lt_of_le hv1 ?_
            have hkl : (ys.take k).length ≤ 7 := by simp; omega
            have : 256 ^ (ys.take k).length ≤ 256 ^ 7 := Nat.pow_le_pow_right (by omega) hkl
            have e : ((256 ^ (ys.take k).length : Nat) : Int) = (256 : Int) ^ (ys.take k).length := by simp
            omega
          have hst : val8 (ys.take (k + 1)) = val8 (ys.take k) * 256 + x := by rw [List.take_add_one, hx, Option.toList_some, val8_snoc]
          have HST := Lib.hid hst
          clear hx hv1 hst
          go_wp2
          go_round
          case rel => exact ⟨k + 1, by omega, by go_num, by rw [HST.out]⟩
          case measure => simp [intOf]; omega
        · go_wp2
          go_ret2
          exact ⟨ret2i (by rw [List.take_of_length_le (by rw [HYL.out]; omega), HYS.out]) rfl, hb⟩
end Go.Proofs.Ytnnknnaimabehaa
