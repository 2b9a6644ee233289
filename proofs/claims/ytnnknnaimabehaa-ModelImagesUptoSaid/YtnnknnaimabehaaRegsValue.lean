/- regs.Value. -/
import Derived.Test.YtnnknnaimabehaaRegsWords
namespace Go.Proofs.Ytnnknnaimabehaa
open Go.RowKit
set_option maxRecDepth 100000

/-- The number of registers in the order Big. -/
def valN (l : List Int) : Int := l.foldl (fun a x => a * 65536 + x) 0
def valB (n : Nat) (o : Int) : Bool := decide (n = 1 ∨ n = 2 ∨ n = 4) && knownB o
theorem valN_snoc (l : List Int) (x : Int) : valN (l ++ [x]) = valN l * 65536 + x := by simp [valN]
theorem valN_in (l : List Int) (h : ∀ x ∈ l, 0 ≤ x ∧ x < 65536) : 0 ≤ valN l ∧ valN l < 65536 ^ l.length := by
  obtain ⟨r, hr⟩ : ∃ r, r = l.reverse := ⟨_, rfl⟩
  obtain rfl : l = r.reverse := by rw [hr, List.reverse_reverse]
  clear hr
  induction r with
  | nil => simp [valN]
  | cons a r ih =>
    simp only [List.reverse_cons] at h ⊢
    have h1 := ih (fun x hx => h x (by simp at hx ⊢; exact .inl hx))
    have h2 := h a (by simp)
    rw [valN_snoc, List.length_append, List.length_singleton, Int.pow_succ]
    omega
theorem or_val (v x : Int) (h0 : 0 ≤ v) (h1 : v < 281474976710656) (h2 : 0 ≤ x) (h3 : x < 65536) : bits .or .u64 (v * 65536) x = v * 65536 + x := by
  obtain ⟨n, rfl⟩ := Int.eq_ofNat_of_zero_le h0
  obtain ⟨m, rfl⟩ := Int.eq_ofNat_of_zero_le h2
  have e2 : ((n : Int) * 65536) = ((n * 65536 : Nat) : Int) := by omega
  rw [e2, u64_or_nat _ _ (by omega) (by omega), nat_join 16 _ _ (by omega) (by omega)]
  omega
theorem turnL_mem (o : Int) (xs : List Int) (h : ∀ x ∈ xs, 0 ≤ x ∧ x < 65536) : ∀ x ∈ turnL o xs, 0 ≤ x ∧ x < 65536 := by
  intro x hx
  unfold turnL at hx
  split at hx
  · exact h x (List.mem_reverse.1 hx)
  · split at hx
    · obtain ⟨y, hy, rfl⟩ := List.mem_map.1 hx; exact swapB_in y (h y hy).1 (h y hy).2
    · split at hx
      · obtain ⟨y, hy, rfl⟩ := List.mem_map.1 hx; exact swapB_in y (h y (List.mem_reverse.1 hy)).1 (h y (List.mem_reverse.1 hy)).2
      · exact h x hx
theorem turnL_len (o : Int) (xs : List Int) : (turnL o xs).length = xs.length := by
  unfold turnL; split
  · simp
  · split
    · simp
    · split <;> simp

theorem fits_len (n : Nat) : fitsB 0 (n : Int) = decide (n = 1 ∨ n = 2 ∨ n = 4) := by
  simp only [fitsB]; rw [Bool.eq_iff_iff]; simp; omega

theorem value_no (A : Option Addr) (n c : Nat) (o : Int) (_hl : n ≤ 9223372036854775807) (w : World) (h : valB n o = false) :
    Calls Try.prog 86 #[.slice A n c, .int .i64 o] w fun e w' => e = .returned (.tuple #[.int .u64 0, .int .i64 20]) ∧ w = w' := by
  cases hf : fitsB 0 n with
  | false =>
    have HF := Lib.hid hf
    clear hf h
    go_in
    go_wp2_with (go_at_call 90; refine (fits_own 0 n (by omega) (by omega) _).mono ?_; rintro e w' ⟨rfl, rfl⟩; rw [HF.out])
    go_ret2
    exact ⟨rfl, rfl⟩
  | true =>
    have hk : knownB o = false := by rw [fits_len] at hf; simpa [valB, hf] using h
    have HF := Lib.hid hf
    have HK := Lib.hid hk
    clear hf h hk
    go_in
    go_wp2_with (first | (go_at_call 90; refine (fits_own 0 n (by omega) (by omega) _).mono ?_; rintro e w' ⟨rfl, rfl⟩; rw [HF.out]) | (go_at_call 91; refine (known_any o _).mono ?_; rintro e w' ⟨rfl, rfl⟩; rw [HK.out]))
    go_ret2
    exact ⟨rfl, rfl⟩

theorem value_own (a : Addr) (n c : Nat) (xs : List Int) (o : Int) (w : World) (hR : RdI w w.heap.size .u16 (some a) xs) (hn : xs.length = n) (hx : ∀ x ∈ xs, 0 ≤ x ∧ x < 65536) (h : valB n o = true) :
    Calls Try.prog 86 #[.slice (some a) n c, .int .i64 o] w fun e w' => e = .returned (.tuple #[.int .u64 (valN (turnL o xs)), .int .i64 0]) ∧ Below w.heap.size w w' := by
  simp only [valB, Bool.and_eq_true, decide_eq_true_eq] at h
  obtain ⟨hm, hk⟩ := h
  have hf : fitsB 0 n = true := by rw [fits_len]; simpa using hm
  have h0 : 0 < n := by omega
  have hl : n ≤ 4 := by omega
  have HF := Lib.hid hf
  have HK := Lib.hid hk
  have HR := Lib.hid hR
  have HN := Lib.hid hn
  have HX := Lib.hid hx
  clear hf hk hR hn hx hm
  go_in
  go_wp2_with (first | (go_at_call 90; refine (fits_own 0 n (by omega) (by omega) _).mono ?_; rintro e w' ⟨rfl, rfl⟩; rw [HF.out]) | (go_at_call 91; refine (known_any o _).mono ?_; rintro e w' ⟨rfl, rfl⟩; rw [HK.out]))
  refine (clone_pos a n c xs _ HR.out HN.out h0 (by omega)).mono ?_
  rintro e w1 ⟨g, c', rfl, hg, hown, hb⟩
  go_wp2_with fail
  obtain rfl := HN.out
  refine (turn_any _ g c' xs o HK.out _ hown (by omega) HX.out).mono ?_
  rintro e w2 ⟨rfl, hown2, hgr⟩
  go_wp2_with fail
  have hb2 : Below w.heap.size w w2 := hb.grown hgr hb.size (fun k hk => by cases hk; omega)
  have HYX := Lib.hid (turnL_mem o xs HX.out)
  have HYL := Lib.hid (turnL_len o xs)
  generalize hys : turnL o xs = ys at hown2 HYX HYL
  have HYS := Lib.hid hys
  clear hys
  go_loop [7, 26] (fun v i => ∃ k : Nat, k ≤ xs.length ∧ i = .int .i64 k ∧ v = .int .u64 (valN (ys.take k))) (fun _ i => xs.length - (intOf i).toNat)
  case atStart => exact ⟨0, by omega, rfl, rfl⟩
  case round =>
    obtain ⟨k, hk, rfl, rfl⟩ := hrel
    by_cases hlt : k < xs.length
    · obtain ⟨x, hx, hcx, _⟩ := own_at hown2 (i := k) (by rw [HYL.out]; exact hlt)
      obtain ⟨hx0, hx1⟩ := HYX.out x (List.mem_of_getElem? hx)
      obtain ⟨hv0, hv1⟩ := valN_in (ys.take k) (fun y hy => HYX.out y (List.mem_of_mem_take hy))
      have hv2 : valN (ys.take k) < 281474976710656 := by
        refine Int.lt_of_lt_of_le hv1 ?_
        have hkl : (ys.take k).length ≤ 3 := by simp; omega
        have : 65536 ^ (ys.take k).length ≤ 65536 ^ 3 := Nat.pow_le_pow_right (by omega) hkl
        have e : ((65536 ^ (ys.take k).length : Nat) : Int) = (65536 : Int) ^ (ys.take k).length := by simp
        omega
      have hst : valN (ys.take (k + 1)) = valN (ys.take k) * 65536 + x := by rw [List.take_add_one, hx, Option.toList_some, valN_snoc]
      have HST := Lib.hid hst
      have ho := or_val _ x hv0 hv2 hx0 hx1
      clear hx hv1 hst
      go_wp2
      go_round
      case rel => exact ⟨k + 1, by omega, by go_num, by rw [HST.out]⟩
      case measure => simp [intOf]; omega
    · go_wp2
      go_ret2
      exact ⟨ret2i (by rw [List.take_of_length_le (by rw [HYL.out]; omega), HYS.out]) rfl, hb2⟩
end Go.Proofs.Ytnnknnaimabehaa
