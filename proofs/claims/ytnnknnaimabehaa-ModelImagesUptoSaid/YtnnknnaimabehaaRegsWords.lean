/- regs.Words and regs.Value. -/
import Derived.Test.YtnnknnaimabehaaRows
import Derived.Test.YtnnknnaimabehaaRegsSigns
import Derived.Test.YtnnknnaimabehaaRegsTurn
namespace Go.Proofs.Ytnnknnaimabehaa
open Go.RowKit
set_option maxRecDepth 100000

/-- A number's registers in the order Big. -/
def bigW (v m : Int) : List Int :=
  if m = 1 then [v % 65536] else if m = 2 then [v / 65536 % 65536, v % 65536] else [v / 281474976710656 % 65536, v / 4294967296 % 65536, v / 65536 % 65536, v % 65536]
def wordsB (v m o : Int) : Bool := fitsB v m && knownB o
theorem bigW_in (v m : Int) : ∀ x ∈ bigW v m, 0 ≤ x ∧ x < 65536 := by
  intro x hx
  unfold bigW at hx
  split at hx
  · simp at hx; omega
  · split at hx
    · simp at hx; omega
    · simp at hx; omega

/-- What a call that makes registers leaves: nil, or a row of its own. -/
theorem words_no (v m o : Int) (h0 : 0 ≤ v) (hv : v ≤ 18446744073709551615) (w : World) (h : wordsB v m o = false) :
    Calls Try.prog 89 #[.int .u64 v, .int .i64 m, .int .i64 o] w fun e w' => e = .returned (.tuple #[.slice none 0 0, .int .i64 20]) ∧ w = w' := by
  cases hf : fitsB v m with
  | false =>
    have HF := Lib.hid hf
    clear hf h
    go_in
    go_wp2_with (go_at_call 90; refine (fits_own v m h0 hv _).mono ?_; rintro e w' ⟨rfl, rfl⟩; rw [HF.out])
    go_ret2
    exact ⟨rfl, rfl⟩
  | true =>
    have hk : knownB o = false := by simpa [wordsB, hf] using h
    have HF := Lib.hid hf
    have HK := Lib.hid hk
    clear hf h hk
    go_in
    go_wp2_with (first | (go_at_call 90; refine (fits_own v m h0 hv _).mono ?_; rintro e w' ⟨rfl, rfl⟩; rw [HF.out]) | (go_at_call 91; refine (known_any o _).mono ?_; rintro e w' ⟨rfl, rfl⟩; rw [HK.out]))
    go_ret2
    exact ⟨rfl, rfl⟩

theorem words_1 (v o : Int) (h0 : 0 ≤ v) (hv : v ≤ 18446744073709551615) (w : World) (hf : fitsB v 1 = true) (hk : knownB o = true) :
    Calls Try.prog 89 #[.int .u64 v, .int .i64 1, .int .i64 o] w fun e w' => ∃ u, e = .returned (.tuple #[u, .int .i64 0]) ∧ w'.ownsRow w.heap.size 40 1 u 1 ((turnL o (bigW v 1)).map (.int .u16)) ∧ Below w.heap.size w w' := by
  have HF := Lib.hid hf
  have HK := Lib.hid hk
  clear hf hk
  go_in
  go_wp2_with (first | (go_at_call 90; refine (fits_own v _ h0 hv _).mono ?_; rintro e w' ⟨rfl, rfl⟩; rw [HF.out]) | (go_at_call 91; refine (known_any o _).mono ?_; rintro e w' ⟨rfl, rfl⟩; rw [HK.out]))
  refine wp_loop_rounds 5 ?_
  iterate 5
    rw [rounds_succ]
    go_wp2_with fail
  refine (clone_pos _ 1 1 (bigW v 1) _ (RdI.of_block (by simp [bigW, IntKind.wrap_u16] <;> omega)) rfl (by omega) (by omega)).mono ?_
  rintro e w1 ⟨g, c', rfl, hg, hown, hb⟩
  have hsz := hb.size
  simp only [World.size_alloc] at hsz hg hown hb
  go_wp2_with fail
  refine (turn_any _ g c' (bigW v 1) o HK.out _ hown (by simp [bigW]) (bigW_in v 1)).mono ?_
  rintro e w2 ⟨rfl, hown2, hgr⟩
  go_wp2_with fail
  go_ret2
  exact ⟨_, rfl, own_base hown2 (by omega), ((Below.refl _ _).alloc (Nat.le_refl _) _ |>.trans (hb.mono (by omega))).grown hgr (by omega) (fun k hk => by cases hk; omega)⟩

theorem words_2 (v o : Int) (h0 : 0 ≤ v) (hv : v ≤ 18446744073709551615) (w : World) (hf : fitsB v 2 = true) (hk : knownB o = true) :
    Calls Try.prog 89 #[.int .u64 v, .int .i64 2, .int .i64 o] w fun e w' => ∃ u, e = .returned (.tuple #[u, .int .i64 0]) ∧ w'.ownsRow w.heap.size 40 1 u 2 ((turnL o (bigW v 2)).map (.int .u16)) ∧ Below w.heap.size w w' := by
  have HF := Lib.hid hf
  have HK := Lib.hid hk
  clear hf hk
  go_in
  go_wp2_with (first | (go_at_call 90; refine (fits_own v _ h0 hv _).mono ?_; rintro e w' ⟨rfl, rfl⟩; rw [HF.out]) | (go_at_call 91; refine (known_any o _).mono ?_; rintro e w' ⟨rfl, rfl⟩; rw [HK.out]))
  refine wp_loop_rounds 5 ?_
  iterate 5
    rw [rounds_succ]
    go_wp2_with fail
  refine (clone_pos _ 2 2 (bigW v 2) _ (RdI.of_block (by simp [bigW, IntKind.wrap_u16] <;> omega)) rfl (by omega) (by omega)).mono ?_
  rintro e w1 ⟨g, c', rfl, hg, hown, hb⟩
  have hsz := hb.size
  simp only [World.size_alloc] at hsz hg hown hb
  go_wp2_with fail
  refine (turn_any _ g c' (bigW v 2) o HK.out _ hown (by simp [bigW]) (bigW_in v 2)).mono ?_
  rintro e w2 ⟨rfl, hown2, hgr⟩
  go_wp2_with fail
  go_ret2
  exact ⟨_, rfl, own_base hown2 (by omega), ((Below.refl _ _).alloc (Nat.le_refl _) _ |>.trans (hb.mono (by omega))).grown hgr (by omega) (fun k hk => by cases hk; omega)⟩

theorem words_4 (v o : Int) (h0 : 0 ≤ v) (hv : v ≤ 18446744073709551615) (w : World) (hf : fitsB v 4 = true) (hk : knownB o = true) :
    Calls Try.prog 89 #[.int .u64 v, .int .i64 4, .int .i64 o] w fun e w' => ∃ u, e = .returned (.tuple #[u, .int .i64 0]) ∧ w'.ownsRow w.heap.size 40 1 u 4 ((turnL o (bigW v 4)).map (.int .u16)) ∧ Below w.heap.size w w' := by
  have HF := Lib.hid hf
  have HK := Lib.hid hk
  clear hf hk
  go_in
  go_wp2_with (first | (go_at_call 90; refine (fits_own v _ h0 hv _).mono ?_; rintro e w' ⟨rfl, rfl⟩; rw [HF.out]) | (go_at_call 91; refine (known_any o _).mono ?_; rintro e w' ⟨rfl, rfl⟩; rw [HK.out]))
  refine wp_loop_rounds 5 ?_
  iterate 5
    rw [rounds_succ]
    go_wp2_with fail
  refine (clone_pos _ 4 4 (bigW v 4) _ (RdI.of_block (by simp [bigW, IntKind.wrap_u16] <;> omega)) rfl (by omega) (by omega)).mono ?_
  rintro e w1 ⟨g, c', rfl, hg, hown, hb⟩
  have hsz := hb.size
  simp only [World.size_alloc] at hsz hg hown hb
  go_wp2_with fail
  refine (turn_any _ g c' (bigW v 4) o HK.out _ hown (by simp [bigW]) (bigW_in v 4)).mono ?_
  rintro e w2 ⟨rfl, hown2, hgr⟩
  go_wp2_with fail
  go_ret2
  exact ⟨_, rfl, own_base hown2 (by omega), ((Below.refl _ _).alloc (Nat.le_refl _) _ |>.trans (hb.mono (by omega))).grown hgr (by omega) (fun k hk => by cases hk; omega)⟩

/-- regs.Words. -/
theorem words_own (v m o : Int) (h0 : 0 ≤ v) (hv : v ≤ 18446744073709551615) (w : World) (h : wordsB v m o = true) :
    Calls Try.prog 89 #[.int .u64 v, .int .i64 m, .int .i64 o] w fun e w' => ∃ u, e = .returned (.tuple #[u, .int .i64 0]) ∧ w'.ownsRow w.heap.size 40 1 u (turnL o (bigW v m)).length ((turnL o (bigW v m)).map (.int .u16)) ∧ Below w.heap.size w w' := by
  simp only [wordsB, Bool.and_eq_true] at h
  obtain ⟨hf, hk⟩ := h
  have hm : m = 1 ∨ m = 2 ∨ m = 4 := by simp [fitsB] at hf; omega
  rcases hm with rfl | rfl | rfl
  · refine (words_1 v o h0 hv w hf hk).mono ?_
    rintro e w' ⟨u, rfl, hown, hb⟩
    exact ⟨u, rfl, by rw [own_len hown]; exact hown, hb⟩
  · refine (words_2 v o h0 hv w hf hk).mono ?_
    rintro e w' ⟨u, rfl, hown, hb⟩
    exact ⟨u, rfl, by rw [own_len hown]; exact hown, hb⟩
  · refine (words_4 v o h0 hv w hf hk).mono ?_
    rintro e w' ⟨u, rfl, hown, hb⟩
    exact ⟨u, rfl, by rw [own_len hown]; exact hown, hb⟩
end Go.Proofs.Ytnnknnaimabehaa
