/- regs.known, slices.Clone and slices.Reverse at []uint16, regs.turn. -/
import Derived.Test.YtnnknnaimabehaaRows
import Derived.Test.YtnnknnaimabehaaMem
import Derived.WalkKit
import Derived.WalkSpells
import Derived.WalkLawsBesides
import Derived.BigQuiet
import Derived.Deep.QuietTactic
import Derived.Lib.Hide
namespace Go.Proofs.Ytnnknnaimabehaa
open Go.RowKit
set_option maxRecDepth 100000

def knownB (o : Int) : Bool := decide (1 ≤ o ∧ o ≤ 4)
theorem known_any (o : Int) (w : World) : Calls Try.prog 91 #[.int .i64 o] w fun e w' => e = .returned (.bool (knownB o)) ∧ w = w' := by
  by_cases h1 : 1 ≤ o
  · by_cases h2 : o ≤ 4
    · go_in; go_wp2; go_ret; exact ⟨retb (by simp [knownB, h1, h2]), rfl⟩
    · go_in; go_wp2; go_ret; exact ⟨retb (by simp [knownB]; omega), rfl⟩
  · go_in; go_wp2; go_ret; exact ⟨retb (by simp [knownB]; omega), rfl⟩

theorem infoU16 : (Try.prog.info? 40).map (fun i => (i.zero, i.size, i.bytes)) = some (some (.int .u16 0), 1, 2) := by kernel_rfl

theorem clone_any (a : Addr) (c : Nat) (xs : List Int) (w : World) (h : RdI w w.heap.size .u16 (some a) xs) (hl : xs.length ≤ 1000000) :
    Calls Try.prog 92 #[.slice (some a) xs.length c] w fun e w' => ∃ v, e = .returned v ∧ w'.ownsRow w.heap.size 40 1 v xs.length (xs.map (.int .u16)) ∧ Below w.heap.size w w' := by
  obtain ⟨i0, hi, hz0, hz1, hz2⟩ := info_parts infoU16
  have qT := fun (w : World) => Lib.run_eql_slice_nil (P := Try.prog) w 25 40 (some a) xs.length c 0 0 Try.underlying25
  have HR := Lib.hid h
  clear h
  go_in
  go_wp2_with (at_builtin; refine wpList_append_own _ rfl _ _ 25 rfl w.heap.size 40 i0 (.int .u16 0) 1 2 Try.underlying25 hi hz0 hz1 hz2 rfl (by decide) _ 0 [] rfl (World.ownsRow_made w #[] 0 (Nat.le_refl _) (by simp [maxLen]) rfl) a xs.length c (xs.map (.int .u16)) rfl (by simp) (news_of (HR.out.below ((Below.refl _ _).alloc (Nat.le_refl _) _))) (ints_oneCell _ _) (by unfold maxLen; omega) (by omega) (by simp) ?_; intro v' w1 hown hgrow _)
  go_ret
  refine ⟨v', rfl, by simpa using hown, ?_⟩
  exact ((Below.refl _ _).alloc (Nat.le_refl _) _).grown hgrow (by simp) (fun k hk => by cases hk; exact Nat.le_refl _)

theorem clone_pos (a : Addr) (n c : Nat) (xs : List Int) (w : World) (h : RdI w w.heap.size .u16 (some a) xs) (hn : xs.length = n) (h0 : 0 < n) (hl : n ≤ 1000000) :
    Calls Try.prog 92 #[.slice (some a) n c] w fun e w' => ∃ g c', e = .returned (.slice (some ⟨g, 0, none⟩) n c') ∧ w.heap.size ≤ g ∧ w'.ownsRow w.heap.size 40 1 (.slice (some ⟨g, 0, none⟩) n c') n (xs.map (.int .u16)) ∧ Below w.heap.size w w' := by
  subst hn
  refine (clone_any a c xs w h hl).mono ?_
  rintro e w' ⟨v, rfl, hown, hb⟩
  obtain ⟨g, cap, rfl, hbg, _⟩ := own_pos hown h0
  exact ⟨g, cap, rfl, hbg, hown, hb⟩

/-- A list with its first k and its last k numbers exchanged. -/
def swapped (xs : List Int) (k : Nat) : List Int := (List.range xs.length).map fun i => if i < k ∨ xs.length ≤ i + k then xs.getD (xs.length - 1 - i) 0 else xs.getD i 0
theorem swapped_len (xs : List Int) (k : Nat) : (swapped xs k).length = xs.length := by simp [swapped]
theorem swapped_at (xs : List Int) (k i : Nat) (h : i < xs.length) : (swapped xs k)[i]? = some (if i < k ∨ xs.length ≤ i + k then xs.getD (xs.length - 1 - i) 0 else xs.getD i 0) := by
  simp [swapped, h]
theorem swapped_zero (xs : List Int) : swapped xs 0 = xs := by
  apply List.ext_getElem?
  intro i
  by_cases h : i < xs.length
  · rw [swapped_at xs 0 i h, if_neg (by omega)]; simp [h]
  · rw [List.getElem?_eq_none (by rw [swapped_len]; omega), List.getElem?_eq_none (by omega)]
theorem swapped_step (xs : List Int) (k j : Nat) (x y : Int) (hkj : k < j) (hj : j + k + 1 = xs.length) (hx : (swapped xs k)[k]? = some x) (hy : (swapped xs k)[j]? = some y) :
    ((swapped xs k).set k y).set j x = swapped xs (k + 1) := by
  rw [swapped_at xs k k (by omega), if_neg (by omega)] at hx
  rw [swapped_at xs k j (by omega), if_neg (by omega)] at hy
  injection hx with hx
  injection hy with hy
  apply List.ext_getElem?
  intro i
  by_cases h : i < xs.length
  · rw [swapped_at xs (k + 1) i h, List.getElem?_set, List.getElem?_set, swapped_at xs k i h]
    by_cases h1 : j = i
    · subst h1
      rw [if_pos rfl, if_pos (by rw [List.length_set, swapped_len]; omega), if_pos (by omega), ← hx]
      congr 2; omega
    · rw [if_neg h1]
      by_cases h2 : k = i
      · subst h2
        rw [if_pos rfl, if_pos (by rw [swapped_len]; omega), if_pos (by omega), ← hy]
        congr 2; omega
      · rw [if_neg h2]
        by_cases h3 : i < k ∨ xs.length ≤ i + k
        · rw [if_pos h3, if_pos (by omega)]
        · rw [if_neg h3, if_neg (by omega)]
  · rw [List.getElem?_eq_none (by simp [swapped_len]; omega), List.getElem?_eq_none (by rw [swapped_len]; omega)]
theorem swapped_end (xs : List Int) (k : Nat) (h : xs.length ≤ 2 * k + 1) (h' : 2 * k ≤ xs.length + 1) : swapped xs k = xs.reverse := by
  apply List.ext_getElem?
  intro i
  by_cases hi : i < xs.length
  · rw [swapped_at xs k i hi, List.getElem?_reverse hi]
    by_cases h3 : i < k ∨ xs.length ≤ i + k
    · rw [if_pos h3]; simp [List.getD, show xs.length - 1 - i < xs.length by omega]
    · rw [if_neg h3]
      rw [show xs.length - 1 - i = i by omega]
      simp [List.getD, hi]
  · rw [List.getElem?_eq_none (by rw [swapped_len]; omega), List.getElem?_eq_none (by simp; omega)]

theorem rev_any (base g c : Nat) (xs : List Int) (w : World) (h : w.ownsRow base 40 1 (.slice (some ⟨g, 0, none⟩) xs.length c) xs.length (xs.map (.int .u16))) (hl : xs.length ≤ 1000000) :
    Calls Try.prog 94 #[.slice (some ⟨g, 0, none⟩) xs.length c] w fun e w' => e = .returned (.tuple #[]) ∧ w'.ownsRow base 40 1 (.slice (some ⟨g, 0, none⟩) xs.length c) xs.length (xs.reverse.map (.int .u16)) ∧ w.grownBy w' (some g) := by
  have HO := Lib.hid h
  clear h
  obtain ⟨n, hn⟩ : ∃ n, n = xs.length := ⟨_, rfl⟩
  rw [← hn] at hl HO ⊢
  have HN := Lib.hid hn
  clear hn
  go_in
  go_wp2
  go_loopw [2, 3] (fun i j wr => ∃ (k : Nat) (m : Int), i = .int .i64 k ∧ j = .int .i64 m ∧ m = n - 1 - k ∧ 2 * k ≤ n + 1 ∧ wr.ownsRow base 40 1 (.slice (some ⟨g, 0, none⟩) n c) n ((swapped xs k).map (.int .u16)) ∧ w.grownBy wr (some g)) (fun i _ _ => n - (intOf i).toNat)
  case atStart => exact ⟨0, _, rfl, rfl, by omega, by omega, by rw [swapped_zero]; exact HO.out, World.grownBy.refl _ _⟩
  case round =>
    obtain ⟨k, m, rfl, rfl, hm, hk, hown, hgr⟩ := hrel
    have hsl : (swapped xs k).length = n := by rw [swapped_len, HN.out]
    by_cases hlt : (k : Int) < m
    · obtain ⟨j, rfl⟩ := Int.eq_ofNat_of_zero_le (show 0 ≤ m by omega)
      obtain ⟨x, hx, hcx, hfx⟩ := own_at hown (i := k) (by omega)
      obtain ⟨y, hy, hcy, hfy⟩ := own_at hown (i := j) (by omega)
      have HX := Lib.hid hx
      have HY := Lib.hid hy
      have HS := Lib.hid hsl
      have HM := Lib.hid hm
      have hjn : j < n := by omega
      have hkn : k < n := by omega
      have hkj : k < j := by omega
      clear hx hy hsl hm
      go_wp2
      go_region
      all_goals
        go_wp2
        go_roundw
        case rel =>
          refine ⟨k + 1, _, by go_num, rfl, by have := HM.out; omega, by have := HM.out; omega, ?_, grownBy_drew (grownBy_set (grownBy_set hgr rfl _) rfl _)⟩
          rw [← swapped_step xs k j x y hkj (by have := HM.out; have := HN.out; omega) HX.out HY.out]
          exact own_set (own_set hown k y) j x
        case measure => simp [intOf]; omega
    · have HS := Lib.hid hsl
      clear hsl
      go_wp2
      go_end0
      refine ⟨rfl, ?_, hgr⟩
      rw [swapped_end xs k (by have := HN.out; omega) (by have := HN.out; omega)] at hown
      simpa using hown

/-- The two bytes of a register, the other way round. -/
def swapB (x : Int) : Int := x % 256 * 256 + x / 256
theorem swapB_in (x : Int) (h : 0 ≤ x) (h' : x < 65536) : 0 ≤ swapB x ∧ swapB x < 65536 := by unfold swapB; omega
theorem or_swap (x : Int) (h : 0 ≤ x) (h' : x < 65536) : bits .or .u16 (x / 256) (IntKind.u16.wrap (x * 256)) = swapB x := by
  obtain ⟨n, rfl⟩ := Int.eq_ofNat_of_zero_le h
  rw [IntKind.wrap_u16]
  have e1 : ((n : Int) / 256) = ((n / 256 : Nat) : Int) := by omega
  have e2 : ((n : Int) * 256 % 65536) = ((n * 256 % 65536 : Nat) : Int) := by omega
  rw [e1, e2, u16_or_nat _ _ (by omega) (by omega), Nat.or_comm, nat_join 8 _ _ (by omega) (by omega)]
  unfold swapB
  omega
def mapTo (xs : List Int) (k : Nat) : List Int := (xs.take k).map swapB ++ xs.drop k
theorem mapTo_at (xs : List Int) (k : Nat) (h : k < xs.length) : (mapTo xs k)[k]? = xs[k]? := by
  unfold mapTo
  rw [List.getElem?_append_right (by simp; omega)]
  simp [Nat.min_eq_left (Nat.le_of_lt h)]
theorem mapTo_step (xs : List Int) (k : Nat) (x : Int) (h : xs[k]? = some x) : (mapTo xs k).set k (swapB x) = mapTo xs (k + 1) := by
  have hk : k < xs.length := (List.getElem?_eq_some_iff.1 h).1
  unfold mapTo
  rw [List.set_append_right _ _ (by simp; omega), List.take_add_one, h]
  simp only [List.length_map, List.length_take, Nat.min_eq_left (Nat.le_of_lt hk), Nat.sub_self, Option.toList_some, List.map_append, List.map_cons, List.map_nil, List.append_assoc, List.cons_append, List.nil_append]
  congr 1
  rw [List.drop_eq_getElem_cons hk]
  rfl
theorem mapTo_end (xs : List Int) (k : Nat) (h : xs.length ≤ k) : mapTo xs k = xs.map swapB := by
  unfold mapTo
  rw [List.take_of_length_le h, List.drop_eq_nil_of_le h, List.append_nil]
def turnL (o : Int) (xs : List Int) : List Int := if o = 2 then xs.reverse else if o = 3 then xs.map swapB else if o = 4 then xs.reverse.map swapB else xs

theorem turn_map (base g c : Nat) (xs : List Int) (w : World) (h : w.ownsRow base 40 1 (.slice (some ⟨g, 0, none⟩) xs.length c) xs.length (xs.map (.int .u16))) (hl : xs.length ≤ 1000000) (hx : ∀ x ∈ xs, 0 ≤ x ∧ x < 65536) :
    Calls Try.prog 93 #[.slice (some ⟨g, 0, none⟩) xs.length c, .int .i64 3] w fun e w' => e = .returned (.tuple #[]) ∧ w'.ownsRow base 40 1 (.slice (some ⟨g, 0, none⟩) xs.length c) xs.length ((turnL 3 xs).map (.int .u16)) ∧ w.grownBy w' (some g) := by
  have HB := Lib.hid hx
  have HMEM : ∀ x, x ∈ xs → x ∈ xs := fun _ h => h
  have hown0 := h
  obtain ⟨n, hn⟩ : ∃ n, n = xs.length := ⟨_, rfl⟩
  rw [← hn] at hl h hown0 ⊢
  clear hx hn
  go_in
  go_wp2
  go_loopw [17] (fun i wr => ∃ (k : Nat), i = .int .i64 k ∧ k ≤ n ∧ wr.ownsRow base 40 1 (.slice (some ⟨g, 0, none⟩) n c) n ((mapTo xs k).map (.int .u16)) ∧ w.grownBy wr (some g)) (fun i _ => n - (intOf i).toNat)
  case atStart => exact ⟨0, rfl, by omega, hown0, World.grownBy.refl _ _⟩
  case round =>
    obtain ⟨k, rfl, hk, hown, hgr⟩ := hrel
    by_cases hlt : k < n
    · obtain ⟨x, hx, hcx, hfx⟩ := own_at hown (i := k) (by rw [own_len hown]; exact hlt)
      rw [mapTo_at xs k (by rw [own_len hown0]; exact hlt)] at hx
      obtain ⟨h0, h1⟩ := HB.out x (HMEM x (List.mem_of_getElem? hx))
      have HX := Lib.hid hx
      have ho := or_swap x h0 h1
      clear hx
      go_wp2
      go_roundw
      case rel =>
        refine ⟨k + 1, by go_num, by omega, ?_, grownBy_set hgr rfl _⟩
        rw [← mapTo_step xs k x HX.out]
        exact own_set hown k _
      case measure => simp [intOf]; omega
    · go_wp2
      go_end0
      refine ⟨rfl, ?_, hgr⟩
      rw [mapTo_end xs k (by have := own_len hown0; omega)] at hown
      simpa [turnL] using hown

theorem turn_both (base g c : Nat) (xs : List Int) (w : World) (h : w.ownsRow base 40 1 (.slice (some ⟨g, 0, none⟩) xs.length c) xs.length (xs.map (.int .u16))) (hl : xs.length ≤ 1000000) (hx : ∀ x ∈ xs, 0 ≤ x ∧ x < 65536) :
    Calls Try.prog 93 #[.slice (some ⟨g, 0, none⟩) xs.length c, .int .i64 4] w fun e w' => e = .returned (.tuple #[]) ∧ w'.ownsRow base 40 1 (.slice (some ⟨g, 0, none⟩) xs.length c) xs.length ((turnL 4 xs).map (.int .u16)) ∧ w.grownBy w' (some g) := by
  have HB := Lib.hid hx
  have HMEM : ∀ x, x ∈ xs.reverse → x ∈ xs := fun _ h => List.mem_reverse.1 h
  have HR := Lib.hid (rev_any base g c xs w h hl)
  obtain ⟨n, hn⟩ : ∃ n, n = xs.length := ⟨_, rfl⟩
  rw [← hn] at hl HR ⊢
  clear hx hn h
  go_in
  go_wp2_with (go_at_call 94; refine HR.out.mono ?_; rintro e w1 ⟨rfl, hown0, hgr0⟩)
  go_loopw [17] (fun i wr => ∃ (k : Nat), i = .int .i64 k ∧ k ≤ n ∧ wr.ownsRow base 40 1 (.slice (some ⟨g, 0, none⟩) n c) n ((mapTo xs.reverse k).map (.int .u16)) ∧ w.grownBy wr (some g)) (fun i _ => n - (intOf i).toNat)
  case atStart => exact ⟨0, rfl, by omega, by simpa [mapTo] using hown0, hgr0⟩
  case round =>
    obtain ⟨k, rfl, hk, hown, hgr⟩ := hrel
    by_cases hlt : k < n
    · obtain ⟨x, hx, hcx, hfx⟩ := own_at hown (i := k) (by rw [own_len hown]; exact hlt)
      rw [mapTo_at xs.reverse k (by rw [own_len hown0]; exact hlt)] at hx
      obtain ⟨h0, h1⟩ := HB.out x (HMEM x (List.mem_of_getElem? hx))
      have HX := Lib.hid hx
      have ho := or_swap x h0 h1
      clear hx
      go_wp2
      go_roundw
      case rel =>
        refine ⟨k + 1, by go_num, by omega, ?_, grownBy_set hgr rfl _⟩
        rw [← mapTo_step xs.reverse k x HX.out]
        exact own_set hown k _
      case measure => simp [intOf]; omega
    · go_wp2
      go_end0
      refine ⟨rfl, ?_, hgr⟩
      rw [mapTo_end xs.reverse k (by have := own_len hown0; omega)] at hown
      simpa [turnL] using hown

theorem turn_rev (base g c : Nat) (xs : List Int) (w : World) (h : w.ownsRow base 40 1 (.slice (some ⟨g, 0, none⟩) xs.length c) xs.length (xs.map (.int .u16))) (hl : xs.length ≤ 1000000) :
    Calls Try.prog 93 #[.slice (some ⟨g, 0, none⟩) xs.length c, .int .i64 2] w fun e w' => e = .returned (.tuple #[]) ∧ w'.ownsRow base 40 1 (.slice (some ⟨g, 0, none⟩) xs.length c) xs.length ((turnL 2 xs).map (.int .u16)) ∧ w.grownBy w' (some g) := by
  have HR := Lib.hid (rev_any base g c xs w h hl)
  clear h
  go_in
  go_wp2_with (go_at_call 94; refine HR.out.mono ?_; rintro e w1 ⟨rfl, hown0, hgr0⟩)
  go_end0
  exact ⟨rfl, by simpa [turnL] using hown0, hgr0⟩

theorem turn_none (base g c : Nat) (xs : List Int) (w : World) (h : w.ownsRow base 40 1 (.slice (some ⟨g, 0, none⟩) xs.length c) xs.length (xs.map (.int .u16))) :
    Calls Try.prog 93 #[.slice (some ⟨g, 0, none⟩) xs.length c, .int .i64 1] w fun e w' => e = .returned (.tuple #[]) ∧ w'.ownsRow base 40 1 (.slice (some ⟨g, 0, none⟩) xs.length c) xs.length ((turnL 1 xs).map (.int .u16)) ∧ w.grownBy w' (some g) := by
  go_in
  go_wp2
  go_end0
  exact ⟨rfl, by simpa [turnL] using h, World.grownBy.refl _ _⟩

theorem turn_any (base g c : Nat) (xs : List Int) (o : Int) (ho : knownB o = true) (w : World) (h : w.ownsRow base 40 1 (.slice (some ⟨g, 0, none⟩) xs.length c) xs.length (xs.map (.int .u16))) (hl : xs.length ≤ 1000000) (hx : ∀ x ∈ xs, 0 ≤ x ∧ x < 65536) :
    Calls Try.prog 93 #[.slice (some ⟨g, 0, none⟩) xs.length c, .int .i64 o] w fun e w' => e = .returned (.tuple #[]) ∧ w'.ownsRow base 40 1 (.slice (some ⟨g, 0, none⟩) xs.length c) xs.length ((turnL o xs).map (.int .u16)) ∧ w.grownBy w' (some g) := by
  have HB := Lib.hid hx
  clear HB
  have : o = 1 ∨ o = 2 ∨ o = 3 ∨ o = 4 := by simp [knownB] at ho; omega
  rcases this with rfl | rfl | rfl | rfl
  · exact turn_none base g c xs w h
  · exact turn_rev base g c xs w h hl
  · exact turn_map base g c xs w h hl hx
  · exact turn_both base g c xs w h hl hx
end Go.Proofs.Ytnnknnaimabehaa
