/- kilowattref02.Same: two lists are the same. -/
import Derived.Test.YtnnknnaimabehaaRows
import Derived.Test.YtnnknnaimabehaaMem
import Derived.WalkKit
import Derived.WalkSpells
import Derived.WalkLawsBesides
import Derived.BigQuiet
import Derived.Deep.QuietTactic
import Derived.Lib.Hide
import Derived.Test.YtnnknnaimabehaaRegsSigns
import Derived.Test.YtnnknnaimabehaaRegsTurn
import Derived.Deep.RegionHeld3
import Derived.Deep.AppendLies
namespace Go.Proofs.Ytnnknnaimabehaa
open Go.RowKit
set_option maxRecDepth 100000

theorem take_eq_succ {xs ys : List Int} {k : Nat} {x y : Int} (h : xs.take k = ys.take k) (hx : xs[k]? = some x) (hy : ys[k]? = some y) (e : x = y) : xs.take (k + 1) = ys.take (k + 1) := by
  rw [List.take_add_one, List.take_add_one, h, hx, hy, e]

theorem same_any (A A' : Option Addr) (c c' : Nat) (xs ys : List Int) (w : World) (hA : RdI w w.heap.size .u16 A xs) (hA' : RdI w w.heap.size .u16 A' ys)
    (hl : xs.length ≤ maxLen) (hl' : ys.length ≤ maxLen) :
    Calls Try.prog 17 #[.slice A xs.length c, .slice A' ys.length c'] w fun e w' => e = .returned (.bool (decide (xs = ys))) ∧ ∃ n, w' = w.drewN n := by
  unfold maxLen at hl hl'
  by_cases hne : xs.length = ys.length
  · obtain ⟨n, hn⟩ : ∃ n, n = xs.length := ⟨_, rfl⟩
    rw [← hne] at hl' ⊢
    rw [← hn] at hl hl' ⊢
    have HN := Lib.hid hn
    have HE := Lib.hid hne
    have HA := Lib.hid hA
    have HA' := Lib.hid hA'
    clear hn hne hA hA'
    go_in
    go_wp2
    go_loopw [5] (fun i wr => ∃ j m : Nat, j ≤ n ∧ i = .int .i64 j ∧ xs.take j = ys.take j ∧ wr = w.drewN m) (fun i _ => n - (intOf i).toNat)
    case atStart => exact ⟨0, 0, Nat.zero_le _, rfl, by simp, rfl⟩
    case round =>
      obtain ⟨j, m, hj, rfl, ht, rfl⟩ := hrel
      have HT := Lib.hid ht
      clear ht
      by_cases hlt : j < n
      · obtain ⟨g, off, x, rfl, _, hx, hc⟩ := HA.out.at_ (i := j) (by have := HN.out; omega)
        obtain ⟨g', off', y, rfl, _, hy, hc'⟩ := HA'.out.at_ (i := j) (by have := HN.out; have := HE.out; omega)
        have HX := Lib.hid hx
        have HY := Lib.hid hy
        clear hx hy
        by_cases he : x = y
        · have HEQ := Lib.hid he
          have hb : (x != y) = false := by simpa using he
          clear he
          go_wp2
          go_quiet (fail)
          go_wp2
          go_roundw
          case rel => exact ⟨j + 1, _, by omega, by go_num, take_eq_succ HT.out HX.out HY.out HEQ.out, rfl⟩
          case measure => simp [intOf]; omega
        · have hb : (x != y) = true := by simpa using he
          go_wp2
          go_quiet (fail)
          go_wp2
          go_ret
          exact ⟨retb (by
            symm; simp only [decide_eq_false_iff_not]; intro e; apply he
            have h1 := HX.out; have h2 := HY.out
            rw [e, h2] at h1; injection h1 with h1; exact h1.symm), _, World.drewN_drewN _ _ _⟩
      · go_wp2
        go_ret
        refine ⟨retb ?_, _, rfl⟩
        symm
        obtain rfl : j = n := by omega
        have h1 := HT.out
        rw [List.take_of_length_le (by have := HN.out; omega), List.take_of_length_le (by have := HN.out; have := HE.out; omega)] at h1
        simpa using h1
  · have hb : ((xs.length : Int) != (ys.length : Int)) = true := by simp; omega
    have hb' : ((xs.length) != (ys.length)) = true := by simp; omega
    go_in
    go_wp2
    go_ret
    exact ⟨retb (by symm; simp only [decide_eq_false_iff_not]; intro e; exact hne (by rw [e])), 0, rfl⟩
end Go.Proofs.Ytnnknnaimabehaa
namespace Go.Proofs.Ytnnknnaimabehaa
open Go.RowKit
set_option maxRecDepth 100000

/-- A number's registers in the order Big. -/
def bigW (v m : Int) : List Int :=
  if m = 1 then [v % 65536] else if m = 2 then [v / 65536 % 65536, v % 65536] else [v / 281474976710656 % 65536, v / 4294967296 % 65536, v / 65536 % 65536, v % 65536]
def wordsB (v m o : Int) : Bool := fitsB v m && knownB o
theorem bigW_in (v m : Int) : ∀ x ∈ bigW v m, 0 ≤ x ∧ x < 65536 := by
  intro x hx
  unfold bigW at hx
  split at hx
  · simp at hx; omega
  · split at hx
    · simp at hx; omega
    · simp at hx; omega

/-- What a call that makes registers leaves: nil, or a row of its own. -/
theorem words_no (v m o : Int) (h0 : 0 ≤ v) (hv : v ≤ 18446744073709551615) (w : World) (h : wordsB v m o = false) :
    Calls Try.prog 89 #[.int .u64 v, .int .i64 m, .int .i64 o] w fun e w' => e = .returned (.tuple #[.slice none 0 0, .int .i64 20]) ∧ w = w' := by
  cases hf : fitsB v m with
  | false =>
    have HF := Lib.hid hf
    clear hf h
    go_in
    go_wp2_with (go_at_call 90; refine (fits_own v m h0 hv _).mono ?_; rintro e w' ⟨rfl, rfl⟩; rw [HF.out])
    go_ret2
    exact ⟨rfl, rfl⟩
  | true =>
    have hk : knownB o = false := by simpa [wordsB, hf] using h
    have HF := Lib.hid hf
    have HK := Lib.hid hk
    clear hf h hk
    go_in
    go_wp2_with (first | (go_at_call 90; refine (fits_own v m h0 hv _).mono ?_; rintro e w' ⟨rfl, rfl⟩; rw [HF.out]) | (go_at_call 91; refine (known_any o _).mono ?_; rintro e w' ⟨rfl, rfl⟩; rw [HK.out]))
    go_ret2
    exact ⟨rfl, rfl⟩

theorem words_1 (v o : Int) (h0 : 0 ≤ v) (hv : v ≤ 18446744073709551615) (w : World) (hf : fitsB v 1 = true) (hk : knownB o = true) :
    Calls Try.prog 89 #[.int .u64 v, .int .i64 1, .int .i64 o] w fun e w' => ∃ u, e = .returned (.tuple #[u, .int .i64 0]) ∧ w'.ownsRow w.heap.size 40 1 u 1 ((turnL o (bigW v 1)).map (.int .u16)) ∧ Below w.heap.size w w' := by
  have HF := Lib.hid hf
  have HK := Lib.hid hk
  clear hf hk
  go_in
  go_wp2_with (first | (go_at_call 90; refine (fits_own v _ h0 hv _).mono ?_; rintro e w' ⟨rfl, rfl⟩; rw [HF.out]) | (go_at_call 91; refine (known_any o _).mono ?_; rintro e w' ⟨rfl, rfl⟩; rw [HK.out]))
  refine wp_loop_rounds 5 ?_
  iterate 5
    rw [rounds_succ]
    go_wp2_with fail
  refine (clone_pos _ 1 1 (bigW v 1) _ (RdI.of_block (by simp [bigW, IntKind.wrap_u16] <;> omega)) rfl (by omega) (by omega)).mono ?_
  rintro e w1 ⟨g, c', rfl, hg, hown, hb⟩
  have hsz := hb.size
  simp only [World.size_alloc] at hsz hg hown hb
  go_wp2_with fail
  refine (turn_any _ g c' (bigW v 1) o HK.out _ hown (by simp [bigW]) (bigW_in v 1)).mono ?_
  rintro e w2 ⟨rfl, hown2, hgr⟩
  go_wp2_with fail
  go_ret2
  exact ⟨_, rfl, own_base hown2 (by omega), ((Below.refl _ _).alloc (Nat.le_refl _) _ |>.trans (hb.mono (by omega))).grown hgr (by omega) (fun k hk => by cases hk; omega)⟩

theorem words_2 (v o : Int) (h0 : 0 ≤ v) (hv : v ≤ 18446744073709551615) (w : World) (hf : fitsB v 2 = true) (hk : knownB o = true) :
    Calls Try.prog 89 #[.int .u64 v, .int .i64 2, .int .i64 o] w fun e w' => ∃ u, e = .returned (.tuple #[u, .int .i64 0]) ∧ w'.ownsRow w.heap.size 40 1 u 2 ((turnL o (bigW v 2)).map (.int .u16)) ∧ Below w.heap.size w w' := by
  have HF := Lib.hid hf
  have HK := Lib.hid hk
  clear hf hk
  go_in
  go_wp2_with (first | (go_at_call 90; refine (fits_own v _ h0 hv _).mono ?_; rintro e w' ⟨rfl, rfl⟩; rw [HF.out]) | (go_at_call 91; refine (known_any o _).mono ?_; rintro e w' ⟨rfl, rfl⟩; rw [HK.out]))
  refine wp_loop_rounds 5 ?_
  iterate 5
    rw [rounds_succ]
    go_wp2_with fail
  refine (clone_pos _ 2 2 (bigW v 2) _ (RdI.of_block (by simp [bigW, IntKind.wrap_u16] <;> omega)) rfl (by omega) (by omega)).mono ?_
  rintro e w1 ⟨g, c', rfl, hg, hown, hb⟩
  have hsz := hb.size
  simp only [World.size_alloc] at hsz hg hown hb
  go_wp2_with fail
  refine (turn_any _ g c' (bigW v 2) o HK.out _ hown (by simp [bigW]) (bigW_in v 2)).mono ?_
  rintro e w2 ⟨rfl, hown2, hgr⟩
  go_wp2_with fail
  go_ret2
  exact ⟨_, rfl, own_base hown2 (by omega), ((Below.refl _ _).alloc (Nat.le_refl _) _ |>.trans (hb.mono (by omega))).grown hgr (by omega) (fun k hk => by cases hk; omega)⟩

theorem words_4 (v o : Int) (h0 : 0 ≤ v) (hv : v ≤ 18446744073709551615) (w : World) (hf : fitsB v 4 = true) (hk : knownB o = true) :
    Calls Try.prog 89 #[.int .u64 v, .int .i64 4, .int .i64 o] w fun e w' => ∃ u, e = .returned (.tuple #[u, .int .i64 0]) ∧ w'.ownsRow w.heap.size 40 1 u 4 ((turnL o (bigW v 4)).map (.int .u16)) ∧ Below w.heap.size w w' := by
  have HF := Lib.hid hf
  have HK := Lib.hid hk
  clear hf hk
  go_in
  go_wp2_with (first | (go_at_call 90; refine (fits_own v _ h0 hv _).mono ?_; rintro e w' ⟨rfl, rfl⟩; rw [HF.out]) | (go_at_call 91; refine (known_any o _).mono ?_; rintro e w' ⟨rfl, rfl⟩; rw [HK.out]))
  refine wp_loop_rounds 5 ?_
  iterate 5
    rw [rounds_succ]
    go_wp2_with fail
  refine (clone_pos _ 4 4 (bigW v 4) _ (RdI.of_block (by simp [bigW, IntKind.wrap_u16] <;> omega)) rfl (by omega) (by omega)).mono ?_
  rintro e w1 ⟨g, c', rfl, hg, hown, hb⟩
  have hsz := hb.size
  simp only [World.size_alloc] at hsz hg hown hb
  go_wp2_with fail
  refine (turn_any _ g c' (bigW v 4) o HK.out _ hown (by simp [bigW]) (bigW_in v 4)).mono ?_
  rintro e w2 ⟨rfl, hown2, hgr⟩
  go_wp2_with fail
  go_ret2
  exact ⟨_, rfl, own_base hown2 (by omega), ((Below.refl _ _).alloc (Nat.le_refl _) _ |>.trans (hb.mono (by omega))).grown hgr (by omega) (fun k hk => by cases hk; omega)⟩

/-- regs.Words. -/
theorem words_own (v m o : Int) (h0 : 0 ≤ v) (hv : v ≤ 18446744073709551615) (w : World) (h : wordsB v m o = true) :
    Calls Try.prog 89 #[.int .u64 v, .int .i64 m, .int .i64 o] w fun e w' => ∃ u, e = .returned (.tuple #[u, .int .i64 0]) ∧ w'.ownsRow w.heap.size 40 1 u (turnL o (bigW v m)).length ((turnL o (bigW v m)).map (.int .u16)) ∧ Below w.heap.size w w' := by
  simp only [wordsB, Bool.and_eq_true] at h
  obtain ⟨hf, hk⟩ := h
  have hm : m = 1 ∨ m = 2 ∨ m = 4 := by simp [fitsB] at hf; omega
  rcases hm with rfl | rfl | rfl
  · refine (words_1 v o h0 hv w hf hk).mono ?_
    rintro e w' ⟨u, rfl, hown, hb⟩
    exact ⟨u, rfl, by rw [own_len hown]; exact hown, hb⟩
  · refine (words_2 v o h0 hv w hf hk).mono ?_
    rintro e w' ⟨u, rfl, hown, hb⟩
    exact ⟨u, rfl, by rw [own_len hown]; exact hown, hb⟩
  · refine (words_4 v o h0 hv w hf hk).mono ?_
    rintro e w' ⟨u, rfl, hown, hb⟩
    exact ⟨u, rfl, by rw [own_len hown]; exact hown, hb⟩
end Go.Proofs.Ytnnknnaimabehaa
namespace Go.Proofs.Ytnnknnaimabehaa
open Go.RowKit
set_option maxRecDepth 100000

/-- The number of registers in the order Big. -/
def valN (l : List Int) : Int := l.foldl (fun a x => a * 65536 + x) 0
def valB (n : Nat) (o : Int) : Bool := decide (n = 1 ∨ n = 2 ∨ n = 4) && knownB o
theorem valN_snoc (l : List Int) (x : Int) : valN (l ++ [x]) = valN l * 65536 + x := by simp [valN]
theorem valN_in (l : List Int) (h : ∀ x ∈ l, 0 ≤ x ∧ x < 65536) : 0 ≤ valN l ∧ valN l < 65536 ^ l.length := by
  obtain ⟨r, hr⟩ : ∃ r, r = l.reverse := ⟨_, rfl⟩
  obtain rfl : l = r.reverse := by rw [hr, List.reverse_reverse]
  clear hr
  induction r with
  | nil => simp [valN]
  | cons a r ih =>
    simp only [List.reverse_cons] at h ⊢
    have h1 := ih (fun x hx => h x (by simp at hx ⊢; exact .inl hx))
    have h2 := h a (by simp)
    rw [valN_snoc, List.length_append, List.length_singleton, Int.pow_succ]
    omega
theorem or_val (v x : Int) (h0 : 0 ≤ v) (h1 : v < 281474976710656) (h2 : 0 ≤ x) (h3 : x < 65536) : bits .or .u64 (v * 65536) x = v * 65536 + x := by
  obtain ⟨n, rfl⟩ := Int.eq_ofNat_of_zero_le h0
  obtain ⟨m, rfl⟩ := Int.eq_ofNat_of_zero_le h2
  have e2 : ((n : Int) * 65536) = ((n * 65536 : Nat) : Int) := by omega
  rw [e2, u64_or_nat _ _ (by omega) (by omega), nat_join 16 _ _ (by omega) (by omega)]
  omega
theorem turnL_mem (o : Int) (xs : List Int) (h : ∀ x ∈ xs, 0 ≤ x ∧ x < 65536) : ∀ x ∈ turnL o xs, 0 ≤ x ∧ x < 65536 := by
  intro x hx
  unfold turnL at hx
  split at hx
  · exact h x (List.mem_reverse.1 hx)
  · split at hx
    · obtain ⟨y, hy, rfl⟩ := List.mem_map.1 hx; exact swapB_in y (h y hy).1 (h y hy).2
    · split at hx
      · obtain ⟨y, hy, rfl⟩ := List.mem_map.1 hx; exact swapB_in y (h y (List.mem_reverse.1 hy)).1 (h y (List.mem_reverse.1 hy)).2
      · exact h x hx
theorem turnL_len (o : Int) (xs : List Int) : (turnL o xs).length = xs.length := by
  unfold turnL; split
  · simp
  · split
    · simp
    · split <;> simp

theorem fits_len (n : Nat) : fitsB 0 (n : Int) = decide (n = 1 ∨ n = 2 ∨ n = 4) := by
  simp only [fitsB]; rw [Bool.eq_iff_iff]; simp; omega

theorem value_no (A : Option Addr) (n c : Nat) (o : Int) (_hl : n ≤ 9223372036854775807) (w : World) (h : valB n o = false) :
    Calls Try.prog 86 #[.slice A n c, .int .i64 o] w fun e w' => e = .returned (.tuple #[.int .u64 0, .int .i64 20]) ∧ w = w' := by
  cases hf : fitsB 0 n with
  | false =>
    have HF := Lib.hid hf
    clear hf h
    go_in
    go_wp2_with (go_at_call 90; refine (fits_own 0 n (by omega) (by omega) _).mono ?_; rintro e w' ⟨rfl, rfl⟩; rw [HF.out])
    go_ret2
    exact ⟨rfl, rfl⟩
  | true =>
    have hk : knownB o = false := by rw [fits_len] at hf; simpa [valB, hf] using h
    have HF := Lib.hid hf
    have HK := Lib.hid hk
    clear hf h hk
    go_in
    go_wp2_with (first | (go_at_call 90; refine (fits_own 0 n (by omega) (by omega) _).mono ?_; rintro e w' ⟨rfl, rfl⟩; rw [HF.out]) | (go_at_call 91; refine (known_any o _).mono ?_; rintro e w' ⟨rfl, rfl⟩; rw [HK.out]))
    go_ret2
    exact ⟨rfl, rfl⟩

theorem value_own (a : Addr) (n c : Nat) (xs : List Int) (o : Int) (w : World) (hR : RdI w w.heap.size .u16 (some a) xs) (hn : xs.length = n) (hx : ∀ x ∈ xs, 0 ≤ x ∧ x < 65536) (h : valB n o = true) :
    Calls Try.prog 86 #[.slice (some a) n c, .int .i64 o] w fun e w' => e = .returned (.tuple #[.int .u64 (valN (turnL o xs)), .int .i64 0]) ∧ Below w.heap.size w w' := by
  simp only [valB, Bool.and_eq_true, decide_eq_true_eq] at h
  obtain ⟨hm, hk⟩ := h
  have hf : fitsB 0 n = true := by rw [fits_len]; simpa using hm
  have h0 : 0 < n := by omega
  have hl : n ≤ 4 := by omega
  have HF := Lib.hid hf
  have HK := Lib.hid hk
  have HR := Lib.hid hR
  have HN := Lib.hid hn
  have HX := Lib.hid hx
  clear hf hk hR hn hx hm
  go_in
  go_wp2_with (first | (go_at_call 90; refine (fits_own 0 n (by omega) (by omega) _).mono ?_; rintro e w' ⟨rfl, rfl⟩; rw [HF.out]) | (go_at_call 91; refine (known_any o _).mono ?_; rintro e w' ⟨rfl, rfl⟩; rw [HK.out]))
  refine (clone_pos a n c xs _ HR.out HN.out h0 (by omega)).mono ?_
  rintro e w1 ⟨g, c', rfl, hg, hown, hb⟩
  go_wp2_with fail
  obtain rfl := HN.out
  refine (turn_any _ g c' xs o HK.out _ hown (by omega) HX.out).mono ?_
  rintro e w2 ⟨rfl, hown2, hgr⟩
  go_wp2_with fail
  have hb2 : Below w.heap.size w w2 := hb.grown hgr hb.size (fun k hk => by cases hk; omega)
  have HYX := Lib.hid (turnL_mem o xs HX.out)
  have HYL := Lib.hid (turnL_len o xs)
  generalize hys : turnL o xs = ys at hown2 HYX HYL
  have HYS := Lib.hid hys
  clear hys
  go_loop [7, 26] (fun v i => ∃ k : Nat, k ≤ xs.length ∧ i = .int .i64 k ∧ v = .int .u64 (valN (ys.take k))) (fun _ i => xs.length - (intOf i).toNat)
  case atStart => exact ⟨0, by omega, rfl, rfl⟩
  case round =>
    obtain ⟨k, hk, rfl, rfl⟩ := hrel
    by_cases hlt : k < xs.length
    · obtain ⟨x, hx, hcx, _⟩ := own_at hown2 (i := k) (by rw [HYL.out]; exact hlt)
      obtain ⟨hx0, hx1⟩ := HYX.out x (List.mem_of_getElem? hx)
      obtain ⟨hv0, hv1⟩ := valN_in (ys.take k) (fun y hy => HYX.out y (List.mem_of_mem_take hy))
      have hv2 : valN (ys.take k) < 281474976710656 := by
        refine Int.lt_of_lt_of_le hv1 ?_
        have hkl : (ys.take k).length ≤ 3 := by simp; omega
        have : 65536 ^ (ys.take k).length ≤ 65536 ^ 3 := Nat.pow_le_pow_right (by omega) hkl
        have e : ((65536 ^ (ys.take k).length : Nat) : Int) = (65536 : Int) ^ (ys.take k).length := by simp
        omega
      have hst : valN (ys.take (k + 1)) = valN (ys.take k) * 65536 + x := by rw [List.take_add_one, hx, Option.toList_some, valN_snoc]
      have HST := Lib.hid hst
      have ho := or_val _ x hv0 hv2 hx0 hx1
      clear hx hv1 hst
      go_wp2
      go_round
      case rel => exact ⟨k + 1, by omega, by go_num, by rw [HST.out]⟩
      case measure => simp [intOf]; omega
    · go_wp2
      go_ret2
      exact ⟨ret2i (by rw [List.take_of_length_le (by rw [HYL.out]; omega), HYS.out]) rfl, hb2⟩
end Go.Proofs.Ytnnknnaimabehaa
namespace Go.Proofs.Ytnnknnaimabehaa
open Go.RowKit
set_option maxRecDepth 100000

def placeN (k n : Nat) (o : Int) : Nat := if o = 2 then n - 2 - k / 2 * 2 + k % 2 else if o = 3 then k / 2 * 2 + 1 - k % 2 else if o = 4 then n - 1 - k else k
theorem place_any (k n : Nat) (o : Int) (ho : knownB o = true) (h2 : n % 2 = 0) (hk : k < n) (hn : n ≤ 100) (w : World) :
    Calls Try.prog 52 #[.int .i64 k, .int .i64 n, .int .i64 o] w fun e w' => e = .returned (.int .i64 (placeN k n o : Nat)) ∧ w = w' := by
  have : o = 1 ∨ o = 2 ∨ o = 3 ∨ o = 4 := by simp [knownB] at ho; omega
  rcases this with rfl | rfl | rfl | rfl
  all_goals
    go_in; go_wp2; go_ret
    exact ⟨reti (by simp [placeN] <;> omega), rfl⟩

theorem place_at (a b o : Int) (k n p : Nat) (ha : a = k) (hb : b = n) (ho : knownB o = true) (h2 : n % 2 = 0) (hk : k < n) (hn : n ≤ 100) (hp : placeN k n o = p) (w : World) :
    Calls Try.prog 52 #[.int .i64 a, .int .i64 b, .int .i64 o] w fun e w' => e = .returned (.int .i64 (p : Nat)) ∧ w' = w := by
  subst ha; subst hb; subst hp
  exact (place_any k n o ho h2 hk hn w).mono fun _ _ ⟨h, h'⟩ => ⟨h, h'.symm⟩
theorem placeN_lt (k n : Nat) (o : Int) (h2 : n % 2 = 0) (hk : k < n) : placeN k n o < n := by
  unfold placeN; split
  · omega
  · split
    · omega
    · split <;> omega
/-- The lowest bytes of a number, the highest first. -/
def beB (v : Int) : Nat → List Int
  | 0 => []
  | j + 1 => v / 256 ^ j % 256 :: beB v j
theorem beB_len (v : Int) (j : Nat) : (beB v j).length = j := by induction j with | zero => rfl | succ j ih => simp [beB, ih]
theorem beB_in (v : Int) (j : Nat) : ∀ x ∈ beB v j, 0 ≤ x ∧ x < 256 := by
  induction j with
  | zero => intro x hx; simp [beB] at hx
  | succ j ih =>
    intro x hx
    simp only [beB, List.mem_cons] at hx
    rcases hx with rfl | hx
    · omega
    · exact ih x hx
def fillB (v : Int) (n j : Nat) : List Int := List.replicate (n - j) 0 ++ beB v j
theorem fillB_len (v : Int) (n j : Nat) (h : j ≤ n) : (fillB v n j).length = n := by simp [fillB, beB_len]; omega
theorem fillB_step (v : Int) (n j : Nat) (h : j < n) : (fillB v n j).set (n - 1 - j) (v / 256 ^ j % 256) = fillB v n (j + 1) := by
  unfold fillB
  rw [List.set_append_left _ _ (by simp; omega)]
  have e : n - j = (n - 1 - j) + 1 := by omega
  rw [e, List.replicate_succ', List.set_append_right _ _ (by simp)]
  simp only [List.length_replicate, Nat.sub_self, List.set_cons_zero, List.append_assoc, List.cons_append, List.nil_append, beB]
  rw [show n - (j + 1) = n - 1 - j by omega]

theorem infoU8 : (Try.prog.info? 5).map (fun i => (i.zero, i.size, i.bytes)) = some (some (.int .u8 0), 1, 1) := by kernel_rfl

/-- A word out of bytes. -/
def wordAt (bs : List Int) (n : Nat) (o : Int) (k : Nat) : Int := bs.getD (placeN (2 * k) n o) 0 * 256 + bs.getD (placeN (2 * k + 1) n o) 0
def wordsTo (bs : List Int) (n : Nat) (o : Int) (k : Nat) : List Int := (List.range k).map (wordAt bs n o)
theorem wordsTo_succ (bs : List Int) (n : Nat) (o : Int) (k : Nat) : wordsTo bs n o (k + 1) = wordsTo bs n o k ++ [wordAt bs n o k] := by simp [wordsTo, List.range_succ]

theorem refwords_yes (v m o : Int) (h0 : 0 ≤ v) (hv : v ≤ 18446744073709551615) (w : World) (hf : fitsB v m = true) (hk : knownB o = true) :
    Calls Try.prog 41 #[.int .u64 v, .int .i64 m, .int .i64 o] w fun e w' => ∃ (u : Value) (k : Nat), e = .returned (.tuple #[u, .int .i64 0]) ∧ (k : Int) = m ∧ w'.ownsRow w.heap.size 40 1 u k ((wordsTo (beB v (2 * k)) (2 * k) o k).map (.int .u16)) ∧ Below w.heap.size w w' := by
  have hm : m = 1 ∨ m = 2 ∨ m = 4 := by simp [fitsB] at hf; omega
  obtain ⟨k, rfl, hk4, hk1⟩ : ∃ k : Nat, m = k ∧ k ≤ 4 ∧ 1 ≤ k := by
    rcases hm with rfl | rfl | rfl
    · exact ⟨1, rfl, by omega, by omega⟩
    · exact ⟨2, rfl, by omega, by omega⟩
    · exact ⟨4, rfl, by omega, by omega⟩
  have hmay : mayB k = true := by simp only [mayB, decide_eq_true_eq]; exact hm
  have ho1 : decide (o < 1) = false := by simp [knownB] at hk; simp; omega
  have ho4 : decide (4 < o) = false := by simp [knownB] at hk; simp; omega
  obtain ⟨i0, hi, hz0, hz1, hz2⟩ := info_parts infoU16
  obtain ⟨i8, hi8, hy0, hy1, hy2⟩ := info_parts infoU8
  have HM := Lib.hid hmay
  have HF := Lib.hid hf
  have HK := Lib.hid hk
  clear hmay hf hk hm
  go_in
  go_wp2_with (first
    | (go_at_call 28; refine (may_any k _).mono ?_; rintro e w' ⟨rfl, rfl⟩; rw [HM.out])
    | (go_at_call 51; refine (fits_ref v k _).mono ?_; rintro e w' ⟨rfl, rfl⟩; rw [HF.out])
    | (at_make; refine wpList_make_full _ rfl _ _ 94 rfl w.heap.size 5 i8 (.int .u8 0) 1 Try.underlying94 hi8 hy0 hy1 _ _ _ _ (2 * k) rfl rfl (by omega) (by omega) (by rw [hy2]; omega) (by unfold maxLen; omega) (Nat.le_refl _) ?_; intro w1 hown1 hgrow1))
  have hown1 : w1.ownsRow w.heap.size 5 1 (.slice (some ⟨w.heap.size, 0, none⟩) (2 * k) (2 * k)) (2 * k) ((fillB v (2 * k) 0).map (.int .u8)) := by
    simpa [fillB, beB, toList_madeCells_one, Value.cells] using hown1
  go_loopw [0, 9] (fun u i wr => ∃ (j : Nat) (m : Int), j ≤ 2 * k ∧ i = .int .i64 m ∧ m = 2 * k - 1 - j ∧ u = .int .u64 (v / 256 ^ j) ∧ wr.ownsRow w.heap.size 5 1 (.slice (some ⟨w.heap.size, 0, none⟩) (2 * k) (2 * k)) (2 * k) ((fillB v (2 * k) j).map (.int .u8)) ∧ Below w.heap.size w wr) (fun _ i _ => (1 + intOf i).toNat)
  case atStart => exact ⟨0, _, by omega, rfl, by omega, by simp, hown1, (Below.refl _ _).grown hgrow1 (Nat.le_refl _) (fun k hk => by cases hk)⟩
  case round =>
    obtain ⟨j, m, hj, rfl, hm, rfl, hown, hb⟩ := hrel
    have hq0 : 0 ≤ v / 256 ^ j := Int.ediv_nonneg h0 (Int.pow_nonneg (by omega))
    have hq1 : v / 256 ^ j ≤ 18446744073709551615 := Int.le_trans (Int.ediv_le_self _ h0) hv
    have hqs := Lib.hid (show v / 256 ^ j / 256 = v / 256 ^ (j + 1) by rw [Int.pow_succ, Int.ediv_ediv_of_nonneg (Int.pow_nonneg (by omega))])
    have HST := Lib.hid (fillB_step v (2 * k) j)
    generalize v / 256 ^ j = q at hq0 hq1 hqs HST ⊢
    have HMM := Lib.hid hm
    by_cases hlt : j < 2 * k
    · obtain ⟨i, rfl⟩ := Int.eq_ofNat_of_zero_le (show 0 ≤ m by omega)
      have hi : i < 2 * k := by omega
      obtain ⟨x, hx, hcx, hfx⟩ := own_at hown (i := i) (by rw [fillB_len v _ _ hj]; exact hi)
      clear hx hm
      go_wp2
      go_roundw
      case rel =>
        refine ⟨j + 1, _, by omega, rfl, by have := HMM.out; omega, by rw [← hqs.out], ?_, hb.setCell (p := ⟨w.heap.size, i, none⟩) (Nat.le_refl _) _⟩
        rw [← HST.out hlt, show 2 * k - 1 - j = i by have := HMM.out; omega]
        have := own_set hown i (q % 256)
        simpa [IntKind.wrap_u8] using this
      case measure => simp [intOf]; omega
    · clear hm
      have hm' : m = -1 := by have := HMM.out; omega
      subst hm'
      obtain rfl : j = 2 * k := by have := HMM.out; omega
      have hsz := (own_lt hown).2
      have hR : RdI wr (w.heap.size + 1) .u8 (some ⟨w.heap.size, 0, none⟩) (beB v (2 * k)) := fun _ => by
        refine ⟨w.heap.size, 0, rfl, by omega, fun i x hx => ?_⟩
        have e : fillB v (2 * k) (2 * k) = beB v (2 * k) := by simp [fillB]
        rw [e] at hown
        obtain ⟨x', hx', hc, _⟩ := own_at hown (i := i) (List.getElem?_eq_some_iff.1 hx).1
        rw [hx] at hx'; injection hx' with hx'
        rw [Nat.zero_add, hx']; exact hc
      have HR := Lib.hid hR
      have HIN := Lib.hid (beB_in v (2 * k))
      have HLN := Lib.hid (beB_len v (2 * k))
      generalize hbs : beB v (2 * k) = bs at HR HIN HLN
      have HBS := Lib.hid hbs
      clear hR hbs hown HST hqs
      obtain ⟨wo, rfl⟩ : ∃ wo : World, wo = wr := ⟨_, rfl⟩
      go_wp2
      go_loopw [10, 11] (fun u i wr => ∃ (t : Nat) (s : Nat), t ≤ k ∧ i = .int .i64 s ∧ s = 2 * t ∧ wr.ownsRow (w.heap.size + 1) 40 1 u t ((wordsTo bs (2 * k) o t).map (.int .u16)) ∧ Below (w.heap.size + 1) wo wr) (fun _ i _ => 2 * k - (intOf i).toNat)
      case atStart => exact ⟨0, 0, by omega, rfl, by omega, World.ownsRow_nil _ _ _ _, Below.refl _ _⟩
      case round =>
        obtain ⟨t, s, ht, rfl, hs, hown, hb2⟩ := hrel
        have HS := Lib.hid hs
        by_cases hlt : s < 2 * k
        · have hp1 := placeN_lt s (2 * k) o (by omega) hlt
          have hp2 := placeN_lt (s + 1) (2 * k) o (by omega) (by omega)
          have hw := wordsTo_succ bs (2 * k) o t
          unfold wordAt at hw
          rw [← hs] at hw
          have HW := Lib.hid hw
          generalize hP1 : placeN s (2 * k) o = p1 at hp1 HW
          generalize hP2 : placeN (s + 1) (2 * k) o = p2 at hp2 HW
          have HP1 := Lib.hid hP1
          have HP2 := Lib.hid hP2
          obtain ⟨g, off, x1, hg, _, hx1, hc1⟩ := (HR.out.below hb2).at_ (i := p1) (by rw [HLN.out]; exact hp1)
          obtain ⟨g', off', x2, hg', _, hx2, hc2⟩ := (HR.out.below hb2).at_ (i := p2) (by rw [HLN.out]; exact hp2)
          injection hg with hg; injection hg with hg hg0; subst hg; subst hg0
          injection hg' with hg'; injection hg' with hg' hg0'; subst hg'; subst hg0'
          rw [Nat.zero_add] at hc1 hc2
          obtain ⟨b1, b2⟩ := HIN.out x1 (List.mem_of_getElem? hx1)
          obtain ⟨b3, b4⟩ := HIN.out x2 (List.mem_of_getElem? hx2)
          have HX1 := Lib.hid hx1
          have HX2 := Lib.hid hx2
          clear hx1 hx2 hs hw hP1 hP2
          have c1 := fun W => place_at s (2 * (k : Int)) o s (2 * k) p1 rfl (by omega) HK.out (by omega) hlt (by omega) HP1.out W
          have c2 := fun W => place_at (s + 1) (2 * (k : Int)) o (s + 1) (2 * k) p2 (by omega) (by omega) HK.out (by omega) (by have := HS.out; omega) (by omega) HP2.out W
          have C1 := Lib.hid c1
          have C2 := Lib.hid c2
          have hp1' : (p1 : Int) < 2 * (k : Int) := by omega
          have hp2' : (p2 : Int) < 2 * (k : Int) := by omega
          have wr1 : IntKind.i64.wrap (2 * (k : Int)) = 2 * (k : Int) := IntWalk.i64_in _ (by omega)
          have wr2 : IntKind.i64.wrap ((s : Int) + 1) = (s : Int) + 1 := IntWalk.i64_in _ (by omega)
          have wr3 : IntKind.u16.wrap x1 = x1 := IntWalk.u16_in _ (by omega)
          have wr4 : IntKind.u16.wrap x2 = x2 := IntWalk.u16_in _ (by omega)
          have wr5 : IntKind.u16.wrap (x1 * 256) = x1 * 256 := IntWalk.u16_in _ (by omega)
          have wr6 : IntKind.u16.wrap (x1 * 256 + x2) = x1 * 256 + x2 := IntWalk.u16_in _ (by omega)
          clear c1 c2
          have hszr := hb2.size
          go_wp2
          go_region_held3 (fun w' => w'.cell? ⟨w.heap.size, p1, none⟩ = some (.int .u8 x1) ∧ w'.cell? ⟨w.heap.size, p2, none⟩ = some (.int .u8 x2))
            (first
              | go_keep
              | (go_split_ands
                 refine ⟨?_, ?_⟩
                 · (rw [hgrow.cell_far _ (by simp; omega) (fun e => by have := (hown.lt _ e.symm).1; simp at this; omega)]; assumption)
                 · (rw [hgrow.cell_far _ (by simp; omega) (fun e => by have := (hown.lt _ e.symm).1; simp at this; omega)]; assumption)))
            (first
              | (go_at_call 52; (with_reducible refine (C1.out _).mono ?_); rintro e w' ⟨rfl, rfl⟩)
              | (go_at_call 52; (with_reducible refine (C2.out _).mono ?_); rintro e w' ⟨rfl, rfl⟩)
              | (refine step_append_lies _ (by rfl) _ _ _ (by rfl) (w.heap.size + 1) 40 i0 (.int .u16 0) 1 2 Try.underlying25 hi hz0 hz1 hz2 rfl (by decide) u10 t _ (by rfl) ((hown.alloc _).drew)
                  ⟨wr.heap.size, 0, none⟩ 1 1 [.int .u16 (x1 * 256 + x2)] (by rfl) (by rfl) (World.news_of_block (cs := #[.int .u16 (x1 * 256 + x2)]) (t := 40) (fr := (0, 0)) (heap_alloc_new wr _)) (by simp [Value.oneCell'])
                  (by omega) (by unfold maxLen; omega) (by omega) (by simp; omega) (wr.heap.size + 1) (by simp) ?_; intro gg cap w1 hown' hgrow hat hlt2))
          clear wr1 wr2 wr3 wr4 wr5 wr6
          go_wp2
          go_roundw
          case rel =>
            refine ⟨t + 1, s + 2, by have := HS.out; omega, by go_num, by have := HS.out; omega, ?_, ?_⟩
            · rw [HW.out]
              simpa [List.getD, HX1.out, HX2.out] using hown'
            · exact ((hb2.alloc (by omega) _).drew).grown hgrow (by simp; omega) (fun k hk => (hown.lt k hk).1)
          case measure => simp [intOf]; omega
        · obtain rfl : t = k := by omega
          go_wp2
          go_ret2
          refine ⟨_, t, rfl, rfl, own_base (base := w.heap.size + 1) ?_ (by omega), hb.trans (hb2.mono (by omega))⟩
          rw [HBS.out]
          exact hown

/-- kilowattref02.Words, what it refuses. -/
theorem refwords_no (v m o : Int) (w : World) (h : wordsB v m o = false) :
    Calls Try.prog 41 #[.int .u64 v, .int .i64 m, .int .i64 o] w fun e w' => e = .returned (.tuple #[.slice none 0 0, .int .i64 20]) ∧ w = w' := by
  cases hm : mayB m with
  | false =>
    have HM := Lib.hid hm
    clear hm h
    go_in
    go_wp2_with (go_at_call 28; refine (may_any m _).mono ?_; rintro e w' ⟨rfl, rfl⟩; rw [HM.out])
    go_ret2
    exact ⟨rfl, rfl⟩
  | true =>
    cases hf : fitsB v m with
    | false =>
      have HM := Lib.hid hm
      have HF := Lib.hid hf
      clear hm hf h
      go_in
      go_wp2_with (first
        | (go_at_call 28; refine (may_any m _).mono ?_; rintro e w' ⟨rfl, rfl⟩; rw [HM.out])
        | (go_at_call 51; refine (fits_ref v m _).mono ?_; rintro e w' ⟨rfl, rfl⟩; rw [HF.out]))
      go_ret2
      exact ⟨rfl, rfl⟩
    | true =>
      have hk : knownB o = false := by simpa [wordsB, hf] using h
      have HM := Lib.hid hm
      have HF := Lib.hid hf
      have HK := Lib.hid hk
      clear hm hf h
      by_cases h1 : o < 1
      · have ho1 : decide (o < 1) = true := by simpa using h1
        clear hk
        go_in
        go_wp2_with (first
          | (go_at_call 28; refine (may_any m _).mono ?_; rintro e w' ⟨rfl, rfl⟩; rw [HM.out])
          | (go_at_call 51; refine (fits_ref v m _).mono ?_; rintro e w' ⟨rfl, rfl⟩; rw [HF.out]))
        go_ret2
        exact ⟨rfl, rfl⟩
      · have ho1 : decide (o < 1) = false := by simpa using h1
        have ho4 : decide (4 < o) = true := by simp [knownB] at hk; simp; omega
        clear hk
        go_in
        go_wp2_with (first
          | (go_at_call 28; refine (may_any m _).mono ?_; rintro e w' ⟨rfl, rfl⟩; rw [HM.out])
          | (go_at_call 51; refine (fits_ref v m _).mono ?_; rintro e w' ⟨rfl, rfl⟩; rw [HF.out]))
        go_ret2
        exact ⟨rfl, rfl⟩

/-- The bytes, put together, are the registers. -/
theorem words_same (v o : Int) (k : Nat) (hk : k = 1 ∨ k = 2 ∨ k = 4) (ho : knownB o = true) : wordsTo (beB v (2 * k)) (2 * k) o k = turnL o (bigW v k) := by
  have : o = 1 ∨ o = 2 ∨ o = 3 ∨ o = 4 := by simp [knownB] at ho; omega
  rcases hk with rfl | rfl | rfl <;> rcases this with rfl | rfl | rfl | rfl <;>
    simp [wordsTo, wordAt, beB, placeN, turnL, bigW, List.range_succ, swapB] <;> omega
end Go.Proofs.Ytnnknnaimabehaa
namespace Go.Proofs.Ytnnknnaimabehaa
open Go.RowKit
set_option maxRecDepth 100000

def byteAt (xs : List Int) (j : Nat) : Int := if j % 2 = 1 then xs.getD (j / 2) 0 % 256 else xs.getD (j / 2) 0 / 256
def fillP (xs : List Int) (n : Nat) (o : Int) : Nat → List Int
  | 0 => List.replicate n 0
  | j + 1 => (fillP xs n o j).set (placeN j n o) (byteAt xs j)
theorem fillP_len (xs : List Int) (n : Nat) (o : Int) (j : Nat) : (fillP xs n o j).length = n := by induction j with | zero => simp [fillP] | succ j ih => simp [fillP, ih]
theorem fillP_in (xs : List Int) (n : Nat) (o : Int) (hx : ∀ x ∈ xs, 0 ≤ x ∧ x < 65536) (j : Nat) : ∀ x ∈ fillP xs n o j, 0 ≤ x ∧ x < 256 := by
  induction j with
  | zero => intro x h; simp [fillP] at h; omega
  | succ j ih =>
    intro x h
    rw [fillP] at h
    rcases List.mem_or_eq_of_mem_set h with h | rfl
    · exact ih x h
    · have : 0 ≤ xs.getD (j / 2) 0 ∧ xs.getD (j / 2) 0 < 65536 := by
        rw [List.getD]
        cases h : xs[j / 2]? with
        | none => simp
        | some y => exact hx y (List.mem_of_getElem? h)
      unfold byteAt
      split <;> omega
def val8 (l : List Int) : Int := l.foldl (fun a x => a * 256 + x) 0
theorem val8_snoc (l : List Int) (x : Int) : val8 (l ++ [x]) = val8 l * 256 + x := by simp [val8]
theorem val8_in (l : List Int) (h : ∀ x ∈ l, 0 ≤ x ∧ x < 256) : 0 ≤ val8 l ∧ val8 l < 256 ^ l.length := by
  obtain ⟨r, hr⟩ : ∃ r, r = l.reverse := ⟨_, rfl⟩
  obtain rfl : l = r.reverse := by rw [hr, List.reverse_reverse]
  clear hr
  induction r with
  | nil => simp [val8]
  | cons a r ih =>
    simp only [List.reverse_cons] at h ⊢
    have h1 := ih (fun x hx => h x (by simp at hx ⊢; exact .inl hx))
    have h2 := h a (by simp)
    rw [val8_snoc, List.length_append, List.length_singleton, Int.pow_succ]
    omega
theorem value_same (xs : List Int) (o : Int) (hk : xs.length = 1 ∨ xs.length = 2 ∨ xs.length = 4) (ho : knownB o = true) (hx : ∀ x ∈ xs, 0 ≤ x ∧ x < 65536) :
    val8 (fillP xs (2 * xs.length) o (2 * xs.length)) = valN (turnL o xs) := by
  have : o = 1 ∨ o = 2 ∨ o = 3 ∨ o = 4 := by simp [knownB] at ho; omega
  rcases hk with h | h | h
  · match xs, h with
    | [a], _ =>
      simp at hx
      rcases this with rfl | rfl | rfl | rfl <;> simp [fillP, byteAt, placeN, turnL, valN, val8, swapB, List.replicate_succ] <;> omega
  · match xs, h with
    | [a, b], _ =>
      simp at hx
      rcases this with rfl | rfl | rfl | rfl <;> simp [fillP, byteAt, placeN, turnL, valN, val8, swapB, List.replicate_succ] <;> omega
  · match xs, h with
    | [a, b, c, d], _ =>
      simp at hx
      rcases this with rfl | rfl | rfl | rfl <;> simp [fillP, byteAt, placeN, turnL, valN, val8, swapB, List.replicate_succ] <;> omega

theorem refvalue_no (A : Option Addr) (n c : Nat) (o : Int) (w : World) (h : valB n o = false) :
    Calls Try.prog 48 #[.slice A n c, .int .i64 o] w fun e w' => e = .returned (.tuple #[.int .u64 0, .int .i64 20]) ∧ w = w' := by
  cases hm : mayB n with
  | false =>
    have HM := Lib.hid hm
    clear hm h
    go_in
    go_wp2_with (go_at_call 28; refine (may_any n _).mono ?_; rintro e w' ⟨rfl, rfl⟩; rw [HM.out])
    go_ret2
    exact ⟨rfl, rfl⟩
  | true =>
    have hn : n = 1 ∨ n = 2 ∨ n = 4 := by simp [mayB] at hm; omega
    have hk : knownB o = false := by simpa [valB, hn] using h
    have HM := Lib.hid hm
    have HK := Lib.hid hk
    clear hm h hn
    by_cases h1 : o < 1
    · have ho1 : decide (o < 1) = true := by simpa using h1
      clear hk
      go_in
      go_wp2_with (go_at_call 28; refine (may_any n _).mono ?_; rintro e w' ⟨rfl, rfl⟩; rw [HM.out])
      go_ret2
      exact ⟨rfl, rfl⟩
    · have ho1 : decide (o < 1) = false := by simpa using h1
      have ho4 : decide (4 < o) = true := by simp [knownB] at hk; simp; omega
      clear hk
      go_in
      go_wp2_with (go_at_call 28; refine (may_any n _).mono ?_; rintro e w' ⟨rfl, rfl⟩; rw [HM.out])
      go_ret2
      exact ⟨rfl, rfl⟩

theorem refvalue_yes (A : Option Addr) (n c : Nat) (xs : List Int) (o : Int) (w : World) (hR : RdI w w.heap.size .u16 A xs) (hn : xs.length = n) (hx : ∀ x ∈ xs, 0 ≤ x ∧ x < 65536) (h : valB n o = true) :
    Calls Try.prog 48 #[.slice A n c, .int .i64 o] w fun e w' => e = .returned (.tuple #[.int .u64 (val8 (fillP xs (2 * n) o (2 * n))), .int .i64 0]) ∧ Below w.heap.size w w' := by
  simp only [valB, Bool.and_eq_true, decide_eq_true_eq] at h
  obtain ⟨hm, hk⟩ := h
  have hmay : mayB n = true := by simp only [mayB, decide_eq_true_eq]; omega
  have ho1 : decide (o < 1) = false := by simp [knownB] at hk; simp; omega
  have ho4 : decide (4 < o) = false := by simp [knownB] at hk; simp; omega
  have hn4 : n ≤ 4 := by omega
  have hn1 : 1 ≤ n := by omega
  obtain ⟨i8, hi8, hy0, hy1, hy2⟩ := info_parts infoU8
  have HM := Lib.hid hmay
  have HK := Lib.hid hk
  have HR := Lib.hid hR
  have HN := Lib.hid hn
  have HX := Lib.hid hx
  clear hmay hk hm hR hn hx
  go_in
  go_wp2_with (first
    | (go_at_call 28; refine (may_any n _).mono ?_; rintro e w' ⟨rfl, rfl⟩; rw [HM.out])
    | (at_make; refine wpList_make_full _ rfl _ _ 94 rfl w.heap.size 5 i8 (.int .u8 0) 1 Try.underlying94 hi8 hy0 hy1 _ _ _ _ (2 * n) rfl rfl (by omega) (by omega) (by rw [hy2]; omega) (by unfold maxLen; omega) (Nat.le_refl _) ?_; intro w1 hown1 hgrow1))
  have hown1 : w1.ownsRow w.heap.size 5 1 (.slice (some ⟨w.heap.size, 0, none⟩) (2 * n) (2 * n)) (2 * n) ((fillP xs (2 * n) o 0).map (.int .u8)) := by
    simpa [fillP, toList_madeCells_one, Value.cells] using hown1
  go_loopw [8] (fun i wr => ∃ j : Nat, j ≤ 2 * n ∧ i = .int .i64 j ∧ wr.ownsRow w.heap.size 5 1 (.slice (some ⟨w.heap.size, 0, none⟩) (2 * n) (2 * n)) (2 * n) ((fillP xs (2 * n) o j).map (.int .u8)) ∧ Below w.heap.size w wr) (fun i _ => 2 * n - (intOf i).toNat)
  case atStart => exact ⟨0, by omega, rfl, hown1, (Below.refl _ _).grown hgrow1 (Nat.le_refl _) (fun k hk => by cases hk)⟩
  case round =>
    obtain ⟨j, hj, rfl, hown, hb⟩ := hrel
    by_cases hlt : j < 2 * n
    · obtain ⟨g, off, x, rfl, hgl, hx, hc0⟩ := (HR.out.below hb).at_ (i := j / 2) (by rw [HN.out]; omega)
      obtain ⟨hx0, hx1⟩ := HX.out x (List.mem_of_getElem? hx)
      have hg : xs.getD (j / 2) 0 = x := by simp [List.getD, hx]
      have HG := Lib.hid hg
      have hp := placeN_lt j (2 * n) o (by omega) hlt
      have hs : fillP xs (2 * n) o (j + 1) = (fillP xs (2 * n) o j).set (placeN j (2 * n) o) (byteAt xs j) := rfl
      unfold byteAt at hs
      rw [hg] at hs
      have HS := Lib.hid hs
      generalize hP : placeN j (2 * n) o = p at hp HS
      have HP := Lib.hid hP
      obtain ⟨y, _, hcy, hfy⟩ := own_at hown (i := p) (by rw [fillP_len]; exact hp)
      have wq : IntKind.u16.wrap (x.tdiv 256) = x / 256 := by rw [Int.tdiv_eq_ediv_of_nonneg hx0]; exact IntWalk.u16_in _ (by omega)
      clear hx hg hs hP
      by_cases hodd : j % 2 = 1
      · have HO := Lib.hid hodd
        have hb1 : ((j : Int) % 2 == 1) = true := by simp; omega
        clear hodd
        go_wp2_with (go_at_call 52; refine (place_at j (2 * (n : Int)) o j (2 * n) p rfl (by omega) HK.out (by omega) hlt (by omega) HP.out _).mono ?_; rintro e w' ⟨rfl, rfl⟩)
        go_roundw
        case rel =>
          refine ⟨j + 1, by omega, by go_num, ?_, hb.setCell (p := ⟨w.heap.size, p, none⟩) (Nat.le_refl _) _⟩
          rw [HS.out, if_pos HO.out]
          exact own_set hown p _
        case measure => simp [intOf]; omega
      · have HO := Lib.hid hodd
        have hb1 : ((j : Int) % 2 == 1) = false := by simp; omega
        clear hodd
        go_wp2_with (go_at_call 52; refine (place_at j (2 * (n : Int)) o j (2 * n) p rfl (by omega) HK.out (by omega) hlt (by omega) HP.out _).mono ?_; rintro e w' ⟨rfl, rfl⟩)
        go_roundw
        case rel =>
          refine ⟨j + 1, by omega, by go_num, ?_, hb.setCell (p := ⟨w.heap.size, p, none⟩) (Nat.le_refl _) _⟩
          rw [HS.out, if_neg HO.out]
          exact own_set hown p _
        case measure => simp [intOf]; omega
    · obtain rfl : j = 2 * n := by omega
      have HYX := Lib.hid (fillP_in xs (2 * n) o HX.out (2 * n))
      have HYL := Lib.hid (fillP_len xs (2 * n) o (2 * n))
      generalize hys : fillP xs (2 * n) o (2 * n) = ys at hown HYX HYL
      have HYS := Lib.hid hys
      clear hys
      go_wp2
      go_loop [10, 11] (fun v i => ∃ k : Nat, k ≤ 2 * n ∧ i = .int .i64 k ∧ v = .int .u64 (val8 (ys.take k))) (fun _ i => 2 * n - (intOf i).toNat)
      case atStart => exact ⟨0, by omega, rfl, rfl⟩
      case round =>
        obtain ⟨k, hk, rfl, rfl⟩ := hrel
        by_cases hlt : k < 2 * n
        · obtain ⟨x, hx, hcx, _⟩ := own_at hown (i := k) (by rw [HYL.out]; exact hlt)
          obtain ⟨hx0, hx1⟩ := HYX.out x (List.mem_of_getElem? hx)
          obtain ⟨hv0, hv1⟩ := val8_in (ys.take k) (fun y hy => HYX.out y (List.mem_of_mem_take hy))
          have hv2 : val8 (ys.take k) < 72057594037927936 := by
            refine Int.lt_of_lt_of_le hv1 ?_
            have hkl : (ys.take k).length ≤ 7 := by simp; omega
            have : 256 ^ (ys.take k).length ≤ 256 ^ 7 := Nat.pow_le_pow_right (by omega) hkl
            have e : ((256 ^ (ys.take k).length : Nat) : Int) = (256 : Int) ^ (ys.take k).length := by simp
            omega
          have hst : val8 (ys.take (k + 1)) = val8 (ys.take k) * 256 + x := by rw [List.take_add_one, hx, Option.toList_some, val8_snoc]
          have HST := Lib.hid hst
          clear hx hv1 hst
          go_wp2
          go_round
          case rel => exact ⟨k + 1, by omega, by go_num, by rw [HST.out]⟩
          case measure => simp [intOf]; omega
        · go_wp2
          go_ret2
          exact ⟨ret2i (by rw [List.take_of_length_le (by rw [HYL.out]; omega), HYS.out]) rfl, hb⟩
end Go.Proofs.Ytnnknnaimabehaa
namespace Go.Proofs.Ytnnknnaimabehaa
open Go.RowKit
set_option maxRecDepth 100000

def wordsX (v m o : Int) : List Int := if wordsB v m o then turnL o (bigW v m) else []
def wordsE (v m o : Int) : Int := if wordsB v m o then 0 else 20
def valX (xs : List Int) (o : Int) : Int := if valB xs.length o then valN (turnL o xs) else 0
def valE (xs : List Int) (o : Int) : Int := if valB xs.length o then 0 else 20

theorem wordsX_len (v m o : Int) : (wordsX v m o).length ≤ 4 := by
  unfold wordsX
  split
  · rw [turnL_len]; unfold bigW; split
    · simp
    · split <;> simp
  · simp

theorem words_sl (v m o : Int) (h0 : 0 ≤ v) (hv : v ≤ 18446744073709551615) (w : World) :
    Calls Try.prog 89 #[.int .u64 v, .int .i64 m, .int .i64 o] w fun e w' => ∃ A n c, e = .returned (.tuple #[.slice A n c, .int .i64 (wordsE v m o)]) ∧ SlI w' w'.heap.size .u16 A n c (wordsX v m o) ∧ Below w.heap.size w w' := by
  cases h : wordsB v m o with
  | false =>
    refine (words_no v m o h0 hv w h).mono ?_
    rintro e w' ⟨rfl, rfl⟩
    exact ⟨none, 0, 0, by simp [wordsE, h], by simp [wordsX, h]; exact SlI.nil _ _ _, Below.refl _ _⟩
  | true =>
    refine (words_own v m o h0 hv w h).mono ?_
    rintro e w' ⟨u, rfl, hown, hb⟩
    obtain ⟨A, c, rfl, hs⟩ := SlI.of_own hown
    exact ⟨A, (turnL o (bigW v m)).length, c, by simp [wordsE, h], by simp [wordsX, h]; exact hs, hb⟩

theorem refwords_sl (v m o : Int) (h0 : 0 ≤ v) (hv : v ≤ 18446744073709551615) (w : World) :
    Calls Try.prog 41 #[.int .u64 v, .int .i64 m, .int .i64 o] w fun e w' => ∃ A n c, e = .returned (.tuple #[.slice A n c, .int .i64 (wordsE v m o)]) ∧ SlI w' w'.heap.size .u16 A n c (wordsX v m o) ∧ Below w.heap.size w w' := by
  cases h : wordsB v m o with
  | false =>
    refine (refwords_no v m o w h).mono ?_
    rintro e w' ⟨rfl, rfl⟩
    exact ⟨none, 0, 0, by simp [wordsE, h], by simp [wordsX, h]; exact SlI.nil _ _ _, Below.refl _ _⟩
  | true =>
    have h' := h
    simp only [wordsB, Bool.and_eq_true] at h'
    refine (refwords_yes v m o h0 hv w h'.1 h'.2).mono ?_
    rintro e w' ⟨u, k, rfl, rfl, hown, hb⟩
    rw [words_same v o k (by have := h'.1; simp [fitsB] at this; omega) h'.2] at hown
    obtain ⟨A, c, rfl, hs⟩ := SlI.of_own hown
    exact ⟨A, k, c, by simp [wordsE, h], by simp [wordsX, h]; exact hs, hb⟩

theorem value_sl (A : Option Addr) (n c : Nat) (xs : List Int) (o : Int) (w : World) (hS : SlI w w.heap.size .u16 A n c xs) (hx : ∀ x ∈ xs, 0 ≤ x ∧ x < 65536) :
    Calls Try.prog 86 #[.slice A n c, .int .i64 o] w fun e w' => e = .returned (.tuple #[.int .u64 (valX xs o), .int .i64 (valE xs o)]) ∧ Below w.heap.size w w' := by
  obtain ⟨hl, hnc, hc, hnone, hrd⟩ := hS
  cases h : valB n o with
  | false =>
    refine (value_no A n c o (by unfold maxLen at hc; omega) w h).mono ?_
    rintro e w' ⟨rfl, rfl⟩
    exact ⟨by simp [valX, valE, hl, h], Below.refl _ _⟩
  | true =>
    cases A with
    | none =>
      obtain ⟨rfl, _⟩ := hnone rfl
      simp [valB] at h
    | some a =>
      refine (value_own a n c xs o w hrd hl hx h).mono ?_
      rintro e w' ⟨rfl, hb⟩
      exact ⟨by simp [valX, valE, hl, h], hb⟩

theorem refvalue_sl (A : Option Addr) (n c : Nat) (xs : List Int) (o : Int) (w : World) (hS : SlI w w.heap.size .u16 A n c xs) (hx : ∀ x ∈ xs, 0 ≤ x ∧ x < 65536) :
    Calls Try.prog 48 #[.slice A n c, .int .i64 o] w fun e w' => e = .returned (.tuple #[.int .u64 (valX xs o), .int .i64 (valE xs o)]) ∧ Below w.heap.size w w' := by
  obtain ⟨hl, hnc, hc, hnone, hrd⟩ := hS
  cases h : valB n o with
  | false =>
    refine (refvalue_no A n c o w h).mono ?_
    rintro e w' ⟨rfl, rfl⟩
    exact ⟨by simp [valX, valE, hl, h], Below.refl _ _⟩
  | true =>
    refine (refvalue_yes A n c xs o w hrd hl hx h).mono ?_
    rintro e w' ⟨rfl, hb⟩
    have h' := h
    simp only [valB, Bool.and_eq_true, decide_eq_true_eq] at h'
    subst hl
    refine ⟨?_, hb⟩
    rw [value_same xs o h'.1 h'.2 hx]
    simp [valX, valE, h]

theorem same_sl (A A' : Option Addr) (n n' c c' : Nat) (xs ys : List Int) (w : World) (h : SlI w w.heap.size .u16 A n c xs) (h' : SlI w w.heap.size .u16 A' n' c' ys) :
    Calls Try.prog 17 #[.slice A n c, .slice A' n' c'] w fun e w' => e = .returned (.bool (decide (xs = ys))) ∧ ∃ k, w' = w.drewN k := by
  obtain ⟨rfl, h1, h2, _, h3⟩ := h
  obtain ⟨rfl, h1', h2', _, h3'⟩ := h'
  exact same_any A A' c c' xs ys w h3 h3' (by omega) (by omega)

end Go.Proofs.Ytnnknnaimabehaa
