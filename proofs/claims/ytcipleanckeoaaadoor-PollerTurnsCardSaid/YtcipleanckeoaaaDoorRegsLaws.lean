/- What registers' numbers with signs are, in plain numbers. -/
import Derived.WalkKit
import Derived.ProofKit
import Derived.Lib.Bytealg
import Derived.Test.YtcipleanckeoaaaDoorRows
import Derived.Test.YtcipleanckeoaaaDoorCommon
import Derived.WalkSpells
import Derived.WalkLawsBesides
import Derived.BigQuiet
import Derived.Deep.QuietTactic
import Derived.Lib.Hide
import Derived.Deep.RegionHeld3
import Derived.Deep.AppendLies
namespace Go.Proofs.YtcipleanckeoaaaDoor
open Go.RowKit
set_option maxRecDepth 100000

/-- The least number that has the sign's bit. -/
def halfS (m : Int) : Int := if m = 1 then 32768 else if m = 2 then 2147483648 else 9223372036854775808
def mayB (m : Int) : Bool := decide (m = 1 ∨ m = 2 ∨ m = 4)
def fitsB (v m : Int) : Bool := decide (m = 1 ∧ v < 65536 ∨ m = 2 ∧ v < 4294967296 ∨ m = 4)
def signedV (v m : Int) : Int := if fitsB v m then (if v < halfS m then v else v - 2 * halfS m) else 0
def signedE (v m : Int) : Int := if fitsB v m then 0 else 20
def unsB (v m : Int) : Bool := decide ((m = 1 ∨ m = 2 ∨ m = 4) ∧ -(halfS m) ≤ v ∧ v < halfS m)
def unsV (v m : Int) : Int := if unsB v m then (if 0 ≤ v then v else v + 2 * halfS m) else 0
def unsE (v m : Int) : Int := if unsB v m then 0 else 20
end Go.Proofs.YtcipleanckeoaaaDoor
namespace Go.Proofs.YtcipleanckeoaaaDoor
/-- A byte of a string, as a number; behind its end: 0. -/
def chr (s : ByteArray) (i : Nat) : Int := (s.data.toList.getD i 0).toNat
theorem chr_in (s : ByteArray) (i : Nat) : 0 ≤ chr s i ∧ chr s i < 256 := by
  unfold chr
  have := (s.data.toList.getD i 0).toNat_lt
  omega
theorem chr_out (s : ByteArray) (i : Nat) (h : s.size ≤ i) : chr s i = 0 := by
  unfold chr
  rw [List.getD, List.getElem?_eq_none (by rw [Array.length_toList]; exact h)]
  rfl
/-- Registers behind the first i bytes. -/
def txtAt (s : ByteArray) (i k : Nat) : Int := if 2 * k + 1 < i then chr s (2 * k) * 256 + chr s (2 * k + 1) else if 2 * k < i then chr s (2 * k) * 256 else 0
def txtL (s : ByteArray) (many i : Nat) : List Int := (List.range many).map (txtAt s i)
theorem txtL_len (s : ByteArray) (many i : Nat) : (txtL s many i).length = many := by simp [txtL]
theorem txtL_get (s : ByteArray) (many i k : Nat) (h : k < many) : (txtL s many i)[k]? = some (txtAt s i k) := by simp [txtL, h]
/-- What a byte adds to its register. -/
def addC (s : ByteArray) (i : Nat) : Int := if i % 2 = 0 then chr s i * 256 else chr s i
theorem txtAt_step (s : ByteArray) (i : Nat) : txtAt s i (i / 2) + addC s i = txtAt s (i + 1) (i / 2) := by
  unfold txtAt addC
  rcases Nat.mod_two_eq_zero_or_one i with h | h
  · have e : 2 * (i / 2) = i := by omega
    rw [e, if_neg (by omega), if_neg (by omega), if_pos h, if_neg (by omega), if_pos (by omega)]
    omega
  · have e : 2 * (i / 2) + 1 = i := by omega
    rw [if_neg (by omega), if_pos (by omega), if_neg (by omega), if_pos (by omega), e]
theorem txtL_step (s : ByteArray) (many i : Nat) : (txtL s many i).set (i / 2) (txtAt s i (i / 2) + addC s i) = txtL s many (i + 1) := by
  apply List.ext_getElem?
  intro k
  rw [List.getElem?_set]
  by_cases hk : i / 2 = k
  · rw [if_pos hk]
    subst hk
    by_cases h : i / 2 < many
    · rw [txtL_len, if_pos h, txtL_get _ _ _ _ h, txtAt_step]
    · rw [txtL_len, if_neg h, List.getElem?_eq_none (by rw [txtL_len]; omega)]
  · rw [if_neg hk]
    by_cases h : k < many
    · rw [txtL_get _ _ _ _ h, txtL_get _ _ _ _ h]
      congr 1
      unfold txtAt
      by_cases h1 : 2 * k + 1 < i
      · rw [if_pos h1, if_pos (by omega)]
      · by_cases h2 : 2 * k < i
        · omega
        · rw [if_neg h1, if_neg h2, if_neg (by omega), if_neg (by omega)]
    · rw [List.getElem?_eq_none (by rw [txtL_len]; omega), List.getElem?_eq_none (by rw [txtL_len]; omega)]
theorem txtL_zero (s : ByteArray) (many : Nat) : txtL s many 0 = List.replicate many 0 := by
  apply List.ext_getElem?
  intro k
  by_cases h : k < many
  · rw [txtL_get _ _ _ _ h, List.getElem?_replicate, if_pos h]; rfl
  · rw [List.getElem?_eq_none (by rw [txtL_len]; omega), List.getElem?_eq_none (by simp; omega)]
theorem txtAt_in (s : ByteArray) (i k : Nat) : 0 ≤ txtAt s i k ∧ txtAt s i k < 65536 := by
  have h1 := chr_in s (2 * k)
  have h2 := chr_in s (2 * k + 1)
  unfold txtAt; split
  · omega
  · split <;> omega
theorem addC_fits (s : ByteArray) (i : Nat) : 0 ≤ txtAt s i (i / 2) + addC s i ∧ txtAt s i (i / 2) + addC s i < 65536 := by
  rw [txtAt_step]; exact txtAt_in _ _ _
/-- All the bytes there are: two a register. -/
theorem txtL_full (s : ByteArray) (many : Nat) : txtL s many s.size = (List.range many).map fun k => chr s (2 * k) * 256 + chr s (2 * k + 1) := by
  unfold txtL
  refine List.map_congr_left fun k _ => ?_
  unfold txtAt
  by_cases h1 : 2 * k + 1 < s.size
  · rw [if_pos h1]
  · rw [if_neg h1, chr_out s (2 * k + 1) (by omega)]
    by_cases h2 : 2 * k < s.size
    · rw [if_pos h2]; omega
    · rw [if_neg h2, chr_out s (2 * k) (by omega)]; omega
def noZero (s : ByteArray) : Prop := ∀ i, i < s.size → chr s i ≠ 0
def txtOk (s : ByteArray) (many : Int) : Prop := 0 ≤ many ∧ many ≤ 125 ∧ (s.size : Int) ≤ 2 * many ∧ noZero s
theorem index_mem (l : List UInt8) (c : UInt8) : 0 ≤ Lib.indexByte l c ↔ c ∈ l := by
  induction l with
  | nil => simp [Lib.indexByte]
  | cons b l ih =>
    unfold Lib.indexByte
    by_cases hb : b = c
    · subst hb; simp
    · have h1 : (b == c) = false := by simpa using hb
      rw [h1]
      have hg := Lib.indexByte_ge l c
      by_cases h2 : Lib.indexByte l c = -1
      · rw [h2]
        have : ¬ c ∈ l := fun h => by have := ih.2 h; omega
        simp [this]
        exact fun h => hb h.symm
      · have h3 : (Lib.indexByte l c == -1) = false := by simpa using h2
        have : c ∈ l := ih.1 (by omega)
        simp [h3, this]
        omega
theorem noZero_iff (s : ByteArray) : noZero s ↔ ¬ 0 ≤ Lib.indexByte s.data.toList 0 := by
  rw [index_mem]
  constructor
  · intro h hm
    obtain ⟨i, hi, e⟩ := List.mem_iff_getElem.1 hm
    refine h i (by rw [Array.length_toList] at hi; exact hi) ?_
    unfold chr
    rw [List.getD, List.getElem?_eq_getElem hi, e]
    rfl
  · intro h i hi hc
    apply h
    have hi' : i < s.data.toList.length := by rw [Array.length_toList]; exact hi
    have e : s.data.toList[i] = 0 := by
      unfold chr at hc
      rw [List.getD, List.getElem?_eq_getElem hi'] at hc
      simp only [Option.getD_some] at hc
      apply UInt8.toNat_inj.1
      simpa using hc
    rw [← e]
    exact List.getElem_mem hi'
end Go.Proofs.YtcipleanckeoaaaDoor
namespace Go.Proofs.YtcipleanckeoaaaDoor
open Go.RowKit


theorem rfits_own (v m : Int) (h0 : 0 ≤ v) (hv : v ≤ 18446744073709551615) (w : World) : Calls Tryd.prog 112 #[.int .u64 v, .int .i64 m] w fun e w' => e = .returned (.bool (fitsB v m)) ∧ w = w' := by
  by_cases h4 : m = 4
  · subst h4; go_in; go_wp2; go_ret; exact ⟨by simp [fitsB], rfl⟩
  by_cases h1 : m = 1
  · subst h1
    go_in; go_wp2; go_ret
    exact ⟨retb (by simp only [fitsB]; rw [Bool.eq_iff_iff]; simp; omega), rfl⟩
  by_cases h2 : m = 2
  · subst h2
    go_in; go_wp2; go_ret
    exact ⟨retb (by simp only [fitsB]; rw [Bool.eq_iff_iff]; simp; omega), rfl⟩
  have k1 : (m == 1) = false := by simpa using h1
  have k2 : (m == 2) = false := by simpa using h2
  have k4 : (m == 4) = false := by simpa using h4
  go_in; go_wp2; go_ret
  exact ⟨by simp [fitsB, h1, h2, h4], rfl⟩

theorem pow_in (k : Nat) (h : k ≤ 63) : (1 : Int) ≤ 2 ^ k ∧ (2 : Int) ^ k ≤ 9223372036854775808 := by
  have a : 1 ≤ 2 ^ k := Nat.one_le_two_pow
  have b : 2 ^ k ≤ 2 ^ 63 := Nat.pow_le_pow_right (by omega) h
  have e : ((2 ^ k : Nat) : Int) = (2 : Int) ^ k := by simp
  omega
theorem pow_in2 (k : Nat) (h : k ≤ 62) : (2 : Int) ^ k ≤ 4611686018427387904 := by
  have b : 2 ^ k ≤ 2 ^ 62 := Nat.pow_le_pow_right (by omega) h
  have e : ((2 ^ k : Nat) : Int) = (2 : Int) ^ k := by simp
  omega
theorem pow_succ' (k : Nat) : (2 : Int) ^ k * 2 = 2 ^ (k + 1) := by rw [Int.pow_succ]

/-- What regs.Unsigned makes of a number ahead of its last test. -/
def outV (v m : Int) : Int := if m = 1 then IntKind.u64.wrap (IntKind.u64.wrap v * 281474976710656) / 281474976710656 else if m = 2 then IntKind.u64.wrap (IntKind.u64.wrap v * 4294967296) / 4294967296 else IntKind.u64.wrap (IntKind.u64.wrap v)
theorem outV_in (v m : Int) : 0 ≤ outV v m ∧ outV v m ≤ 18446744073709551615 := by
  unfold outV; simp only [u64w]; split
  · omega
  · split <;> omega
theorem outV_fits (v m : Int) (hm : m = 1 ∨ m = 2 ∨ m = 4) : fitsB (outV v m) m = true := by
  have := outV_in v 1
  rcases hm with rfl | rfl | rfl <;> simp [fitsB, outV, u64w] <;> omega
theorem outV_yes (v m : Int) (h : unsB v m = true) : signedV (outV v m) m = v ∧ outV v m = unsV v m := by
  have hm : m = 1 ∨ m = 2 ∨ m = 4 := by simp [unsB] at h; omega
  have hf := outV_fits v m hm
  unfold signedV unsV
  rw [hf, h, if_pos rfl, if_pos rfl]
  clear hf
  simp only [unsB, decide_eq_true_eq] at h
  obtain ⟨_, h1, h2⟩ := h
  rcases hm with rfl | rfl | rfl
  all_goals
    simp [outV, u64w, halfS] at h1 h2 ⊢
    constructor
    · split <;> omega
    · split <;> omega
theorem outV_no (v m : Int) (h0 : -9223372036854775808 ≤ v) (hv : v ≤ 9223372036854775807) (hm : m = 1 ∨ m = 2 ∨ m = 4) (h : unsB v m = false) : (signedV (outV v m) m != v) = true := by
  have hf := outV_fits v m hm
  rw [bne_iff_ne]
  unfold signedV
  rw [hf, if_pos rfl]
  clear hf
  simp only [unsB, decide_eq_false_iff_not] at h
  rcases hm with rfl | rfl | rfl
  all_goals
    simp [outV, u64w, halfS] at h ⊢
    split <;> omega

end Go.Proofs.YtcipleanckeoaaaDoor
namespace Go.Proofs.YtcipleanckeoaaaDoor
open Go.RowKit
set_option maxRecDepth 100000

def knownB (o : Int) : Bool := decide (1 ≤ o ∧ o ≤ 4)
theorem rknown_any (o : Int) (w : World) : Calls Tryd.prog 113 #[.int .i64 o] w fun e w' => e = .returned (.bool (knownB o)) ∧ w = w' := by
  by_cases h1 : 1 ≤ o
  · by_cases h2 : o ≤ 4
    · go_in; go_wp2; go_ret; exact ⟨retb (by simp [knownB, h1, h2]), rfl⟩
    · go_in; go_wp2; go_ret; exact ⟨retb (by simp [knownB]; omega), rfl⟩
  · go_in; go_wp2; go_ret; exact ⟨retb (by simp [knownB]; omega), rfl⟩

theorem infoU16 : (Tryd.prog.info? 45).map (fun i => (i.zero, i.size, i.bytes)) = some (some (.int .u16 0), 1, 2) := by kernel_rfl

theorem clone_any (a : Addr) (c : Nat) (xs : List Int) (w : World) (h : RdI w w.heap.size .u16 (some a) xs) (hl : xs.length ≤ 1000000) :
    Calls Tryd.prog 88 #[.slice (some a) xs.length c] w fun e w' => ∃ v, e = .returned v ∧ w'.ownsRow w.heap.size 45 1 v xs.length (xs.map (.int .u16)) ∧ Below w.heap.size w w' := by
  obtain ⟨i0, hi, hz0, hz1, hz2⟩ := info_parts infoU16
  have qT := fun (w : World) => Lib.run_eql_slice_nil (P := Tryd.prog) w 27 45 (some a) xs.length c 0 0 Tryd.underlying27
  have HR := Lib.hid h
  clear h
  go_in
  go_wp2_with (at_builtin; refine wpList_append_own _ rfl _ _ 27 rfl w.heap.size 45 i0 (.int .u16 0) 1 2 Tryd.underlying27 hi hz0 hz1 hz2 rfl (by decide) _ 0 [] rfl (World.ownsRow_made w #[] 0 (Nat.le_refl _) (by simp [maxLen]) rfl) a xs.length c (xs.map (.int .u16)) rfl (by simp) (news_of (HR.out.below ((Below.refl _ _).alloc (Nat.le_refl _) _))) (ints_oneCell _ _) (by unfold maxLen; omega) (by omega) (by simp) ?_; intro v' w1 hown hgrow _)
  go_ret
  refine ⟨v', rfl, by simpa using hown, ?_⟩
  exact ((Below.refl _ _).alloc (Nat.le_refl _) _).grown hgrow (by simp) (fun k hk => by cases hk; exact Nat.le_refl _)

theorem clone_pos (a : Addr) (n c : Nat) (xs : List Int) (w : World) (h : RdI w w.heap.size .u16 (some a) xs) (hn : xs.length = n) (h0 : 0 < n) (hl : n ≤ 1000000) :
    Calls Tryd.prog 88 #[.slice (some a) n c] w fun e w' => ∃ g c', e = .returned (.slice (some ⟨g, 0, none⟩) n c') ∧ w.heap.size ≤ g ∧ w'.ownsRow w.heap.size 45 1 (.slice (some ⟨g, 0, none⟩) n c') n (xs.map (.int .u16)) ∧ Below w.heap.size w w' := by
  subst hn
  refine (clone_any a c xs w h hl).mono ?_
  rintro e w' ⟨v, rfl, hown, hb⟩
  obtain ⟨g, cap, rfl, hbg, _⟩ := own_pos hown h0
  exact ⟨g, cap, rfl, hbg, hown, hb⟩

/-- A list with its first k and its last k numbers exchanged. -/
def swapped (xs : List Int) (k : Nat) : List Int := (List.range xs.length).map fun i => if i < k ∨ xs.length ≤ i + k then xs.getD (xs.length - 1 - i) 0 else xs.getD i 0
theorem swapped_len (xs : List Int) (k : Nat) : (swapped xs k).length = xs.length := by simp [swapped]
theorem swapped_at (xs : List Int) (k i : Nat) (h : i < xs.length) : (swapped xs k)[i]? = some (if i < k ∨ xs.length ≤ i + k then xs.getD (xs.length - 1 - i) 0 else xs.getD i 0) := by
  simp [swapped, h]
theorem swapped_zero (xs : List Int) : swapped xs 0 = xs := by
  apply List.ext_getElem?
  intro i
  by_cases h : i < xs.length
  · rw [swapped_at xs 0 i h, if_neg (by omega)]; simp [h]
  · rw [List.getElem?_eq_none (by rw [swapped_len]; omega), List.getElem?_eq_none (by omega)]
theorem swapped_step (xs : List Int) (k j : Nat) (x y : Int) (hkj : k < j) (hj : j + k + 1 = xs.length) (hx : (swapped xs k)[k]? = some x) (hy : (swapped xs k)[j]? = some y) :
    ((swapped xs k).set k y).set j x = swapped xs (k + 1) := by
  rw [swapped_at xs k k (by omega), if_neg (by omega)] at hx
  rw [swapped_at xs k j (by omega), if_neg (by omega)] at hy
  injection hx with hx
  injection hy with hy
  apply List.ext_getElem?
  intro i
  by_cases h : i < xs.length
  · rw [swapped_at xs (k + 1) i h, List.getElem?_set, List.getElem?_set, swapped_at xs k i h]
    by_cases h1 : j = i
    · subst h1
      rw [if_pos rfl, if_pos (by rw [List.length_set, swapped_len]; omega), if_pos (by omega), ← hx]
      congr 2; omega
    · rw [if_neg h1]
      by_cases h2 : k = i
      · subst h2
        rw [if_pos rfl, if_pos (by rw [swapped_len]; omega), if_pos (by omega), ← hy]
        congr 2; omega
      · rw [if_neg h2]
        by_cases h3 : i < k ∨ xs.length ≤ i + k
        · rw [if_pos h3, if_pos (by omega)]
        · rw [if_neg h3, if_neg (by omega)]
  · rw [List.getElem?_eq_none (by simp [swapped_len]; omega), List.getElem?_eq_none (by rw [swapped_len]; omega)]
theorem swapped_end (xs : List Int) (k : Nat) (h : xs.length ≤ 2 * k + 1) (h' : 2 * k ≤ xs.length + 1) : swapped xs k = xs.reverse := by
  apply List.ext_getElem?
  intro i
  by_cases hi : i < xs.length
  · rw [swapped_at xs k i hi, List.getElem?_reverse hi]
    by_cases h3 : i < k ∨ xs.length ≤ i + k
    · rw [if_pos h3]; simp [List.getD, show xs.length - 1 - i < xs.length by omega]
    · rw [if_neg h3]
      rw [show xs.length - 1 - i = i by omega]
      simp [List.getD, hi]
  · rw [List.getElem?_eq_none (by rw [swapped_len]; omega), List.getElem?_eq_none (by simp; omega)]

theorem rev_any (base g c : Nat) (xs : List Int) (w : World) (h : w.ownsRow base 45 1 (.slice (some ⟨g, 0, none⟩) xs.length c) xs.length (xs.map (.int .u16))) (hl : xs.length ≤ 1000000) :
    Calls Tryd.prog 140 #[.slice (some ⟨g, 0, none⟩) xs.length c] w fun e w' => e = .returned (.tuple #[]) ∧ w'.ownsRow base 45 1 (.slice (some ⟨g, 0, none⟩) xs.length c) xs.length (xs.reverse.map (.int .u16)) ∧ w.grownBy w' (some g) := by
  have HO := Lib.hid h
  clear h
  obtain ⟨n, hn⟩ : ∃ n, n = xs.length := ⟨_, rfl⟩
  rw [← hn] at hl HO ⊢
  have HN := Lib.hid hn
  clear hn
  go_in
  go_wp2
  go_loopw [2, 3] (fun i j wr => ∃ (k : Nat) (m : Int), i = .int .i64 k ∧ j = .int .i64 m ∧ m = n - 1 - k ∧ 2 * k ≤ n + 1 ∧ wr.ownsRow base 45 1 (.slice (some ⟨g, 0, none⟩) n c) n ((swapped xs k).map (.int .u16)) ∧ w.grownBy wr (some g)) (fun i _ _ => n - (intOf i).toNat)
  case atStart => exact ⟨0, _, rfl, rfl, by omega, by omega, by rw [swapped_zero]; exact HO.out, World.grownBy.refl _ _⟩
  case round =>
    obtain ⟨k, m, rfl, rfl, hm, hk, hown, hgr⟩ := hrel
    have hsl : (swapped xs k).length = n := by rw [swapped_len, HN.out]
    by_cases hlt : (k : Int) < m
    · obtain ⟨j, rfl⟩ := Int.eq_ofNat_of_zero_le (show 0 ≤ m by omega)
      obtain ⟨x, hx, hcx, hfx⟩ := own_at hown (i := k) (by omega)
      obtain ⟨y, hy, hcy, hfy⟩ := own_at hown (i := j) (by omega)
      have HX := Lib.hid hx
      have HY := Lib.hid hy
      have HS := Lib.hid hsl
      have HM := Lib.hid hm
      have hjn : j < n := by omega
      have hkn : k < n := by omega
      have hkj : k < j := by omega
      clear hx hy hsl hm
      go_wp2
      go_region
      all_goals
        go_wp2
        go_roundw
        case rel =>
          refine ⟨k + 1, _, by go_num, rfl, by have := HM.out; omega, by have := HM.out; omega, ?_, grownBy_drew (grownBy_set (grownBy_set hgr rfl _) rfl _)⟩
          rw [← swapped_step xs k j x y hkj (by have := HM.out; have := HN.out; omega) HX.out HY.out]
          exact own_set (own_set hown k y) j x
        case measure => simp [intOf]; omega
    · have HS := Lib.hid hsl
      clear hsl
      go_wp2
      go_end0
      refine ⟨rfl, ?_, hgr⟩
      rw [swapped_end xs k (by have := HN.out; omega) (by have := HN.out; omega)] at hown
      simpa using hown

/-- The two bytes of a register, the other way round. -/
def swapB (x : Int) : Int := x % 256 * 256 + x / 256
theorem swapB_in (x : Int) (h : 0 ≤ x) (h' : x < 65536) : 0 ≤ swapB x ∧ swapB x < 65536 := by unfold swapB; omega
theorem or_swap (x : Int) (h : 0 ≤ x) (h' : x < 65536) : bits .or .u16 (x / 256) (IntKind.u16.wrap (x * 256)) = swapB x := by
  obtain ⟨n, rfl⟩ := Int.eq_ofNat_of_zero_le h
  rw [IntKind.wrap_u16]
  have e1 : ((n : Int) / 256) = ((n / 256 : Nat) : Int) := by omega
  have e2 : ((n : Int) * 256 % 65536) = ((n * 256 % 65536 : Nat) : Int) := by omega
  rw [e1, e2, u16_or_nat _ _ (by omega) (by omega), Nat.or_comm, nat_join 8 _ _ (by omega) (by omega)]
  unfold swapB
  omega
def mapTo (xs : List Int) (k : Nat) : List Int := (xs.take k).map swapB ++ xs.drop k
theorem mapTo_at (xs : List Int) (k : Nat) (h : k < xs.length) : (mapTo xs k)[k]? = xs[k]? := by
  unfold mapTo
  rw [List.getElem?_append_right (by simp; omega)]
  simp [Nat.min_eq_left (Nat.le_of_lt h)]
theorem mapTo_step (xs : List Int) (k : Nat) (x : Int) (h : xs[k]? = some x) : (mapTo xs k).set k (swapB x) = mapTo xs (k + 1) := by
  have hk : k < xs.length := (List.getElem?_eq_some_iff.1 h).1
  unfold mapTo
  rw [List.set_append_right _ _ (by simp; omega), List.take_add_one, h]
  simp only [List.length_map, List.length_take, Nat.min_eq_left (Nat.le_of_lt hk), Nat.sub_self, Option.toList_some, List.map_append, List.map_cons, List.map_nil, List.append_assoc, List.cons_append, List.nil_append]
  congr 1
  rw [List.drop_eq_getElem_cons hk]
  rfl
theorem mapTo_end (xs : List Int) (k : Nat) (h : xs.length ≤ k) : mapTo xs k = xs.map swapB := by
  unfold mapTo
  rw [List.take_of_length_le h, List.drop_eq_nil_of_le h, List.append_nil]
def turnL (o : Int) (xs : List Int) : List Int := if o = 2 then xs.reverse else if o = 3 then xs.map swapB else if o = 4 then xs.reverse.map swapB else xs

theorem turn_map (base g c : Nat) (xs : List Int) (w : World) (h : w.ownsRow base 45 1 (.slice (some ⟨g, 0, none⟩) xs.length c) xs.length (xs.map (.int .u16))) (hl : xs.length ≤ 1000000) (hx : ∀ x ∈ xs, 0 ≤ x ∧ x < 65536) :
    Calls Tryd.prog 114 #[.slice (some ⟨g, 0, none⟩) xs.length c, .int .i64 3] w fun e w' => e = .returned (.tuple #[]) ∧ w'.ownsRow base 45 1 (.slice (some ⟨g, 0, none⟩) xs.length c) xs.length ((turnL 3 xs).map (.int .u16)) ∧ w.grownBy w' (some g) := by
  have HB := Lib.hid hx
  have HMEM : ∀ x, x ∈ xs → x ∈ xs := fun _ h => h
  have hown0 := h
  obtain ⟨n, hn⟩ : ∃ n, n = xs.length := ⟨_, rfl⟩
  rw [← hn] at hl h hown0 ⊢
  clear hx hn
  go_in
  go_wp2
  go_loopw [17] (fun i wr => ∃ (k : Nat), i = .int .i64 k ∧ k ≤ n ∧ wr.ownsRow base 45 1 (.slice (some ⟨g, 0, none⟩) n c) n ((mapTo xs k).map (.int .u16)) ∧ w.grownBy wr (some g)) (fun i _ => n - (intOf i).toNat)
  case atStart => exact ⟨0, rfl, by omega, hown0, World.grownBy.refl _ _⟩
  case round =>
    obtain ⟨k, rfl, hk, hown, hgr⟩ := hrel
    by_cases hlt : k < n
    · obtain ⟨x, hx, hcx, hfx⟩ := own_at hown (i := k) (by rw [own_len hown]; exact hlt)
      rw [mapTo_at xs k (by rw [own_len hown0]; exact hlt)] at hx
      obtain ⟨h0, h1⟩ := HB.out x (HMEM x (List.mem_of_getElem? hx))
      have HX := Lib.hid hx
      have ho := or_swap x h0 h1
      clear hx
      go_wp2
      go_roundw
      case rel =>
        refine ⟨k + 1, by go_num, by omega, ?_, grownBy_set hgr rfl _⟩
        rw [← mapTo_step xs k x HX.out]
        exact own_set hown k _
      case measure => simp [intOf]; omega
    · go_wp2
      go_end0
      refine ⟨rfl, ?_, hgr⟩
      rw [mapTo_end xs k (by have := own_len hown0; omega)] at hown
      simpa [turnL] using hown

theorem turn_both (base g c : Nat) (xs : List Int) (w : World) (h : w.ownsRow base 45 1 (.slice (some ⟨g, 0, none⟩) xs.length c) xs.length (xs.map (.int .u16))) (hl : xs.length ≤ 1000000) (hx : ∀ x ∈ xs, 0 ≤ x ∧ x < 65536) :
    Calls Tryd.prog 114 #[.slice (some ⟨g, 0, none⟩) xs.length c, .int .i64 4] w fun e w' => e = .returned (.tuple #[]) ∧ w'.ownsRow base 45 1 (.slice (some ⟨g, 0, none⟩) xs.length c) xs.length ((turnL 4 xs).map (.int .u16)) ∧ w.grownBy w' (some g) := by
  have HB := Lib.hid hx
  have HMEM : ∀ x, x ∈ xs.reverse → x ∈ xs := fun _ h => List.mem_reverse.1 h
  have HR := Lib.hid (rev_any base g c xs w h hl)
  obtain ⟨n, hn⟩ : ∃ n, n = xs.length := ⟨_, rfl⟩
  rw [← hn] at hl HR ⊢
  clear hx hn h
  go_in
  go_wp2_with (go_at_call 140; refine HR.out.mono ?_; rintro e w1 ⟨rfl, hown0, hgr0⟩)
  go_loopw [17] (fun i wr => ∃ (k : Nat), i = .int .i64 k ∧ k ≤ n ∧ wr.ownsRow base 45 1 (.slice (some ⟨g, 0, none⟩) n c) n ((mapTo xs.reverse k).map (.int .u16)) ∧ w.grownBy wr (some g)) (fun i _ => n - (intOf i).toNat)
  case atStart => exact ⟨0, rfl, by omega, by simpa [mapTo] using hown0, hgr0⟩
  case round =>
    obtain ⟨k, rfl, hk, hown, hgr⟩ := hrel
    by_cases hlt : k < n
    · obtain ⟨x, hx, hcx, hfx⟩ := own_at hown (i := k) (by rw [own_len hown]; exact hlt)
      rw [mapTo_at xs.reverse k (by rw [own_len hown0]; exact hlt)] at hx
      obtain ⟨h0, h1⟩ := HB.out x (HMEM x (List.mem_of_getElem? hx))
      have HX := Lib.hid hx
      have ho := or_swap x h0 h1
      clear hx
      go_wp2
      go_roundw
      case rel =>
        refine ⟨k + 1, by go_num, by omega, ?_, grownBy_set hgr rfl _⟩
        rw [← mapTo_step xs.reverse k x HX.out]
        exact own_set hown k _
      case measure => simp [intOf]; omega
    · go_wp2
      go_end0
      refine ⟨rfl, ?_, hgr⟩
      rw [mapTo_end xs.reverse k (by have := own_len hown0; omega)] at hown
      simpa [turnL] using hown

theorem turn_rev (base g c : Nat) (xs : List Int) (w : World) (h : w.ownsRow base 45 1 (.slice (some ⟨g, 0, none⟩) xs.length c) xs.length (xs.map (.int .u16))) (hl : xs.length ≤ 1000000) :
    Calls Tryd.prog 114 #[.slice (some ⟨g, 0, none⟩) xs.length c, .int .i64 2] w fun e w' => e = .returned (.tuple #[]) ∧ w'.ownsRow base 45 1 (.slice (some ⟨g, 0, none⟩) xs.length c) xs.length ((turnL 2 xs).map (.int .u16)) ∧ w.grownBy w' (some g) := by
  have HR := Lib.hid (rev_any base g c xs w h hl)
  clear h
  go_in
  go_wp2_with (go_at_call 140; refine HR.out.mono ?_; rintro e w1 ⟨rfl, hown0, hgr0⟩)
  go_end0
  exact ⟨rfl, by simpa [turnL] using hown0, hgr0⟩

theorem turn_none (base g c : Nat) (xs : List Int) (w : World) (h : w.ownsRow base 45 1 (.slice (some ⟨g, 0, none⟩) xs.length c) xs.length (xs.map (.int .u16))) :
    Calls Tryd.prog 114 #[.slice (some ⟨g, 0, none⟩) xs.length c, .int .i64 1] w fun e w' => e = .returned (.tuple #[]) ∧ w'.ownsRow base 45 1 (.slice (some ⟨g, 0, none⟩) xs.length c) xs.length ((turnL 1 xs).map (.int .u16)) ∧ w.grownBy w' (some g) := by
  go_in
  go_wp2
  go_end0
  exact ⟨rfl, by simpa [turnL] using h, World.grownBy.refl _ _⟩

theorem turn_any (base g c : Nat) (xs : List Int) (o : Int) (ho : knownB o = true) (w : World) (h : w.ownsRow base 45 1 (.slice (some ⟨g, 0, none⟩) xs.length c) xs.length (xs.map (.int .u16))) (hl : xs.length ≤ 1000000) (hx : ∀ x ∈ xs, 0 ≤ x ∧ x < 65536) :
    Calls Tryd.prog 114 #[.slice (some ⟨g, 0, none⟩) xs.length c, .int .i64 o] w fun e w' => e = .returned (.tuple #[]) ∧ w'.ownsRow base 45 1 (.slice (some ⟨g, 0, none⟩) xs.length c) xs.length ((turnL o xs).map (.int .u16)) ∧ w.grownBy w' (some g) := by
  have HB := Lib.hid hx
  clear HB
  have : o = 1 ∨ o = 2 ∨ o = 3 ∨ o = 4 := by simp [knownB] at ho; omega
  rcases this with rfl | rfl | rfl | rfl
  · exact turn_none base g c xs w h
  · exact turn_rev base g c xs w h hl
  · exact turn_map base g c xs w h hl hx
  · exact turn_both base g c xs w h hl hx
end Go.Proofs.YtcipleanckeoaaaDoor
namespace Go.Proofs.YtcipleanckeoaaaDoor
open Go.RowKit
set_option maxRecDepth 100000

theorem take_eq_succ {xs ys : List Int} {k : Nat} {x y : Int} (h : xs.take k = ys.take k) (hx : xs[k]? = some x) (hy : ys[k]? = some y) (e : x = y) : xs.take (k + 1) = ys.take (k + 1) := by
  rw [List.take_add_one, List.take_add_one, h, hx, hy, e]

end Go.Proofs.YtcipleanckeoaaaDoor
namespace Go.Proofs.YtcipleanckeoaaaDoor
open Go.RowKit
set_option maxRecDepth 100000

/-- A number's registers in the order Big. -/
def bigW (v m : Int) : List Int :=
  if m = 1 then [v % 65536] else if m = 2 then [v / 65536 % 65536, v % 65536] else [v / 281474976710656 % 65536, v / 4294967296 % 65536, v / 65536 % 65536, v % 65536]
def wordsB (v m o : Int) : Bool := fitsB v m && knownB o
theorem bigW_in (v m : Int) : ∀ x ∈ bigW v m, 0 ≤ x ∧ x < 65536 := by
  intro x hx
  unfold bigW at hx
  split at hx
  · simp at hx; omega
  · split at hx
    · simp at hx; omega
    · simp at hx; omega

end Go.Proofs.YtcipleanckeoaaaDoor
namespace Go.Proofs.YtcipleanckeoaaaDoor
open Go.RowKit
set_option maxRecDepth 100000

/-- The number of registers in the order Big. -/
def valN (l : List Int) : Int := l.foldl (fun a x => a * 65536 + x) 0
def valB (n : Nat) (o : Int) : Bool := decide (n = 1 ∨ n = 2 ∨ n = 4) && knownB o
theorem valN_snoc (l : List Int) (x : Int) : valN (l ++ [x]) = valN l * 65536 + x := by simp [valN]
theorem valN_in (l : List Int) (h : ∀ x ∈ l, 0 ≤ x ∧ x < 65536) : 0 ≤ valN l ∧ valN l < 65536 ^ l.length := by
  obtain ⟨r, hr⟩ : ∃ r, r = l.reverse := ⟨_, rfl⟩
  obtain rfl : l = r.reverse := by rw [hr, List.reverse_reverse]
  clear hr
  induction r with
  | nil => simp [valN]
  | cons a r ih =>
    simp only [List.reverse_cons] at h ⊢
    have h1 := ih (fun x hx => h x (by simp at hx ⊢; exact .inl hx))
    have h2 := h a (by simp)
    rw [valN_snoc, List.length_append, List.length_singleton, Int.pow_succ]
    omega
theorem or_val (v x : Int) (h0 : 0 ≤ v) (h1 : v < 281474976710656) (h2 : 0 ≤ x) (h3 : x < 65536) : bits .or .u64 (v * 65536) x = v * 65536 + x := by
  obtain ⟨n, rfl⟩ := Int.eq_ofNat_of_zero_le h0
  obtain ⟨m, rfl⟩ := Int.eq_ofNat_of_zero_le h2
  have e2 : ((n : Int) * 65536) = ((n * 65536 : Nat) : Int) := by omega
  rw [e2, u64_or_nat _ _ (by omega) (by omega), nat_join 16 _ _ (by omega) (by omega)]
  omega
theorem turnL_mem (o : Int) (xs : List Int) (h : ∀ x ∈ xs, 0 ≤ x ∧ x < 65536) : ∀ x ∈ turnL o xs, 0 ≤ x ∧ x < 65536 := by
  intro x hx
  unfold turnL at hx
  split at hx
  · exact h x (List.mem_reverse.1 hx)
  · split at hx
    · obtain ⟨y, hy, rfl⟩ := List.mem_map.1 hx; exact swapB_in y (h y hy).1 (h y hy).2
    · split at hx
      · obtain ⟨y, hy, rfl⟩ := List.mem_map.1 hx; exact swapB_in y (h y (List.mem_reverse.1 hy)).1 (h y (List.mem_reverse.1 hy)).2
      · exact h x hx
theorem turnL_len (o : Int) (xs : List Int) : (turnL o xs).length = xs.length := by
  unfold turnL; split
  · simp
  · split
    · simp
    · split <;> simp

theorem fits_len (n : Nat) : fitsB 0 (n : Int) = decide (n = 1 ∨ n = 2 ∨ n = 4) := by
  simp only [fitsB]; rw [Bool.eq_iff_iff]; simp; omega

theorem value_no (A : Option Addr) (n c : Nat) (o : Int) (_hl : n ≤ 9223372036854775807) (w : World) (h : valB n o = false) :
    Calls Tryd.prog 85 #[.slice A n c, .int .i64 o] w fun e w' => e = .returned (.tuple #[.int .u64 0, .int .i64 20]) ∧ w = w' := by
  cases hf : fitsB 0 n with
  | false =>
    have HF := Lib.hid hf
    clear hf h
    go_in
    go_wp2_with (go_at_call 112; refine (rfits_own 0 n (by omega) (by omega) _).mono ?_; rintro e w' ⟨rfl, rfl⟩; rw [HF.out])
    go_ret2
    exact ⟨rfl, rfl⟩
  | true =>
    have hk : knownB o = false := by rw [fits_len] at hf; simpa [valB, hf] using h
    have HF := Lib.hid hf
    have HK := Lib.hid hk
    clear hf h hk
    go_in
    go_wp2_with (first | (go_at_call 112; refine (rfits_own 0 n (by omega) (by omega) _).mono ?_; rintro e w' ⟨rfl, rfl⟩; rw [HF.out]) | (go_at_call 113; refine (rknown_any o _).mono ?_; rintro e w' ⟨rfl, rfl⟩; rw [HK.out]))
    go_ret2
    exact ⟨rfl, rfl⟩

theorem value_own (a : Addr) (n c : Nat) (xs : List Int) (o : Int) (w : World) (hR : RdI w w.heap.size .u16 (some a) xs) (hn : xs.length = n) (hx : ∀ x ∈ xs, 0 ≤ x ∧ x < 65536) (h : valB n o = true) :
    Calls Tryd.prog 85 #[.slice (some a) n c, .int .i64 o] w fun e w' => e = .returned (.tuple #[.int .u64 (valN (turnL o xs)), .int .i64 0]) ∧ Below w.heap.size w w' := by
  simp only [valB, Bool.and_eq_true, decide_eq_true_eq] at h
  obtain ⟨hm, hk⟩ := h
  have hf : fitsB 0 n = true := by rw [fits_len]; simpa using hm
  have h0 : 0 < n := by omega
  have hl : n ≤ 4 := by omega
  have HF := Lib.hid hf
  have HK := Lib.hid hk
  have HR := Lib.hid hR
  have HN := Lib.hid hn
  have HX := Lib.hid hx
  clear hf hk hR hn hx hm
  go_in
  go_wp2_with (first | (go_at_call 112; refine (rfits_own 0 n (by omega) (by omega) _).mono ?_; rintro e w' ⟨rfl, rfl⟩; rw [HF.out]) | (go_at_call 113; refine (rknown_any o _).mono ?_; rintro e w' ⟨rfl, rfl⟩; rw [HK.out]))
  refine (clone_pos a n c xs _ HR.out HN.out h0 (by omega)).mono ?_
  rintro e w1 ⟨g, c', rfl, hg, hown, hb⟩
  go_wp2_with fail
  obtain rfl := HN.out
  refine (turn_any _ g c' xs o HK.out _ hown (by omega) HX.out).mono ?_
  rintro e w2 ⟨rfl, hown2, hgr⟩
  go_wp2_with fail
  have hb2 : Below w.heap.size w w2 := hb.grown hgr hb.size (fun k hk => by cases hk; omega)
  have HYX := Lib.hid (turnL_mem o xs HX.out)
  have HYL := Lib.hid (turnL_len o xs)
  generalize hys : turnL o xs = ys at hown2 HYX HYL
  have HYS := Lib.hid hys
  clear hys
  go_loop [7, 26] (fun v i => ∃ k : Nat, k ≤ xs.length ∧ i = .int .i64 k ∧ v = .int .u64 (valN (ys.take k))) (fun _ i => xs.length - (intOf i).toNat)
  case atStart => exact ⟨0, by omega, rfl, rfl⟩
  case round =>
    obtain ⟨k, hk, rfl, rfl⟩ := hrel
    by_cases hlt : k < xs.length
    · obtain ⟨x, hx, hcx, _⟩ := own_at hown2 (i := k) (by rw [HYL.out]; exact hlt)
      obtain ⟨hx0, hx1⟩ := HYX.out x (List.mem_of_getElem? hx)
      obtain ⟨hv0, hv1⟩ := valN_in (ys.take k) (fun y hy => HYX.out y (List.mem_of_mem_take hy))
      have hv2 : valN (ys.take k) < 281474976710656 := by
        refine Int.lt_of_lt_of_le hv1 ?_
        have hkl : (ys.take k).length ≤ 3 := by simp; omega
        have : 65536 ^ (ys.take k).length ≤ 65536 ^ 3 := Nat.pow_le_pow_right (by omega) hkl
        have e : ((65536 ^ (ys.take k).length : Nat) : Int) = (65536 : Int) ^ (ys.take k).length := by simp
        omega
      have hst : valN (ys.take (k + 1)) = valN (ys.take k) * 65536 + x := by rw [List.take_add_one, hx, Option.toList_some, valN_snoc]
      have HST := Lib.hid hst
      have ho := or_val _ x hv0 hv2 hx0 hx1
      clear hx hv1 hst
      go_wp2
      go_round
      case rel => exact ⟨k + 1, by omega, by go_num, by rw [HST.out]⟩
      case measure => simp [intOf]; omega
    · go_wp2
      go_ret2
      exact ⟨ret2i (by rw [List.take_of_length_le (by rw [HYL.out]; omega), HYS.out]) rfl, hb2⟩
end Go.Proofs.YtcipleanckeoaaaDoor
namespace Go.Proofs.YtcipleanckeoaaaDoor
open Go.RowKit
set_option maxRecDepth 100000

def placeN (k n : Nat) (o : Int) : Nat := if o = 2 then n - 2 - k / 2 * 2 + k % 2 else if o = 3 then k / 2 * 2 + 1 - k % 2 else if o = 4 then n - 1 - k else k
theorem placeN_lt (k n : Nat) (o : Int) (h2 : n % 2 = 0) (hk : k < n) : placeN k n o < n := by
  unfold placeN; split
  · omega
  · split
    · omega
    · split <;> omega
/-- The lowest bytes of a number, the highest first. -/
def beB (v : Int) : Nat → List Int
  | 0 => []
  | j + 1 => v / 256 ^ j % 256 :: beB v j
theorem beB_len (v : Int) (j : Nat) : (beB v j).length = j := by induction j with | zero => rfl | succ j ih => simp [beB, ih]
theorem beB_in (v : Int) (j : Nat) : ∀ x ∈ beB v j, 0 ≤ x ∧ x < 256 := by
  induction j with
  | zero => intro x hx; simp [beB] at hx
  | succ j ih =>
    intro x hx
    simp only [beB, List.mem_cons] at hx
    rcases hx with rfl | hx
    · omega
    · exact ih x hx
def fillB (v : Int) (n j : Nat) : List Int := List.replicate (n - j) 0 ++ beB v j
theorem fillB_len (v : Int) (n j : Nat) (h : j ≤ n) : (fillB v n j).length = n := by simp [fillB, beB_len]; omega
theorem fillB_step (v : Int) (n j : Nat) (h : j < n) : (fillB v n j).set (n - 1 - j) (v / 256 ^ j % 256) = fillB v n (j + 1) := by
  unfold fillB
  rw [List.set_append_left _ _ (by simp; omega)]
  have e : n - j = (n - 1 - j) + 1 := by omega
  rw [e, List.replicate_succ', List.set_append_right _ _ (by simp)]
  simp only [List.length_replicate, Nat.sub_self, List.set_cons_zero, List.append_assoc, List.cons_append, List.nil_append, beB]
  rw [show n - (j + 1) = n - 1 - j by omega]

theorem rinfoU8 : (Tryd.prog.info? 5).map (fun i => (i.zero, i.size, i.bytes)) = some (some (.int .u8 0), 1, 1) := by kernel_rfl

/-- A word out of bytes. -/
def wordAt (bs : List Int) (n : Nat) (o : Int) (k : Nat) : Int := bs.getD (placeN (2 * k) n o) 0 * 256 + bs.getD (placeN (2 * k + 1) n o) 0
def wordsTo (bs : List Int) (n : Nat) (o : Int) (k : Nat) : List Int := (List.range k).map (wordAt bs n o)
theorem wordsTo_succ (bs : List Int) (n : Nat) (o : Int) (k : Nat) : wordsTo bs n o (k + 1) = wordsTo bs n o k ++ [wordAt bs n o k] := by simp [wordsTo, List.range_succ]

/-- The bytes, put together, are the registers. -/
theorem words_same (v o : Int) (k : Nat) (hk : k = 1 ∨ k = 2 ∨ k = 4) (ho : knownB o = true) : wordsTo (beB v (2 * k)) (2 * k) o k = turnL o (bigW v k) := by
  have : o = 1 ∨ o = 2 ∨ o = 3 ∨ o = 4 := by simp [knownB] at ho; omega
  rcases hk with rfl | rfl | rfl <;> rcases this with rfl | rfl | rfl | rfl <;>
    simp [wordsTo, wordAt, beB, placeN, turnL, bigW, List.range_succ, swapB] <;> omega
end Go.Proofs.YtcipleanckeoaaaDoor
namespace Go.Proofs.YtcipleanckeoaaaDoor
open Go.RowKit
set_option maxRecDepth 100000

def byteAt (xs : List Int) (j : Nat) : Int := if j % 2 = 1 then xs.getD (j / 2) 0 % 256 else xs.getD (j / 2) 0 / 256
def fillP (xs : List Int) (n : Nat) (o : Int) : Nat → List Int
  | 0 => List.replicate n 0
  | j + 1 => (fillP xs n o j).set (placeN j n o) (byteAt xs j)
theorem fillP_len (xs : List Int) (n : Nat) (o : Int) (j : Nat) : (fillP xs n o j).length = n := by induction j with | zero => simp [fillP] | succ j ih => simp [fillP, ih]
theorem fillP_in (xs : List Int) (n : Nat) (o : Int) (hx : ∀ x ∈ xs, 0 ≤ x ∧ x < 65536) (j : Nat) : ∀ x ∈ fillP xs n o j, 0 ≤ x ∧ x < 256 := by
  induction j with
  | zero => intro x h; simp [fillP] at h; omega
  | succ j ih =>
    intro x h
    rw [fillP] at h
    rcases List.mem_or_eq_of_mem_set h with h | rfl
    · exact ih x h
    · have : 0 ≤ xs.getD (j / 2) 0 ∧ xs.getD (j / 2) 0 < 65536 := by
        rw [List.getD]
        cases h : xs[j / 2]? with
        | none => simp
        | some y => exact hx y (List.mem_of_getElem? h)
      unfold byteAt
      split <;> omega
def val8 (l : List Int) : Int := l.foldl (fun a x => a * 256 + x) 0
theorem val8_snoc (l : List Int) (x : Int) : val8 (l ++ [x]) = val8 l * 256 + x := by simp [val8]
theorem val8_in (l : List Int) (h : ∀ x ∈ l, 0 ≤ x ∧ x < 256) : 0 ≤ val8 l ∧ val8 l < 256 ^ l.length := by
  obtain ⟨r, hr⟩ : ∃ r, r = l.reverse := ⟨_, rfl⟩
  obtain rfl : l = r.reverse := by rw [hr, List.reverse_reverse]
  clear hr
  induction r with
  | nil => simp [val8]
  | cons a r ih =>
    simp only [List.reverse_cons] at h ⊢
    have h1 := ih (fun x hx => h x (by simp at hx ⊢; exact .inl hx))
    have h2 := h a (by simp)
    rw [val8_snoc, List.length_append, List.length_singleton, Int.pow_succ]
    omega
theorem value_same (xs : List Int) (o : Int) (hk : xs.length = 1 ∨ xs.length = 2 ∨ xs.length = 4) (ho : knownB o = true) (hx : ∀ x ∈ xs, 0 ≤ x ∧ x < 65536) :
    val8 (fillP xs (2 * xs.length) o (2 * xs.length)) = valN (turnL o xs) := by
  have : o = 1 ∨ o = 2 ∨ o = 3 ∨ o = 4 := by simp [knownB] at ho; omega
  rcases hk with h | h | h
  · match xs, h with
    | [a], _ =>
      simp at hx
      rcases this with rfl | rfl | rfl | rfl <;> simp [fillP, byteAt, placeN, turnL, valN, val8, swapB, List.replicate_succ] <;> omega
  · match xs, h with
    | [a, b], _ =>
      simp at hx
      rcases this with rfl | rfl | rfl | rfl <;> simp [fillP, byteAt, placeN, turnL, valN, val8, swapB, List.replicate_succ] <;> omega
  · match xs, h with
    | [a, b, c, d], _ =>
      simp at hx
      rcases this with rfl | rfl | rfl | rfl <;> simp [fillP, byteAt, placeN, turnL, valN, val8, swapB, List.replicate_succ] <;> omega

end Go.Proofs.YtcipleanckeoaaaDoor
namespace Go.Proofs.YtcipleanckeoaaaDoor
open Go.RowKit
set_option maxRecDepth 100000

def wordsX (v m o : Int) : List Int := if wordsB v m o then turnL o (bigW v m) else []
def wordsE (v m o : Int) : Int := if wordsB v m o then 0 else 20
def valX (xs : List Int) (o : Int) : Int := if valB xs.length o then valN (turnL o xs) else 0
def valE (xs : List Int) (o : Int) : Int := if valB xs.length o then 0 else 20

theorem wordsX_len (v m o : Int) : (wordsX v m o).length ≤ 4 := by
  unfold wordsX
  split
  · rw [turnL_len]; unfold bigW; split
    · simp
    · split <;> simp
  · simp

theorem value_sl (A : Option Addr) (n c : Nat) (xs : List Int) (o : Int) (w : World) (hS : SlI w w.heap.size .u16 A n c xs) (hx : ∀ x ∈ xs, 0 ≤ x ∧ x < 65536) :
    Calls Tryd.prog 85 #[.slice A n c, .int .i64 o] w fun e w' => e = .returned (.tuple #[.int .u64 (valX xs o), .int .i64 (valE xs o)]) ∧ Below w.heap.size w w' := by
  obtain ⟨hl, hnc, hc, hnone, hrd⟩ := hS
  cases h : valB n o with
  | false =>
    refine (value_no A n c o (by unfold maxLen at hc; omega) w h).mono ?_
    rintro e w' ⟨rfl, rfl⟩
    exact ⟨by simp [valX, valE, hl, h], Below.refl _ _⟩
  | true =>
    cases A with
    | none =>
      obtain ⟨rfl, _⟩ := hnone rfl
      simp [valB] at h
    | some a =>
      refine (value_own a n c xs o w hrd hl hx h).mono ?_
      rintro e w' ⟨rfl, hb⟩
      exact ⟨by simp [valX, valE, hl, h], hb⟩

end Go.Proofs.YtcipleanckeoaaaDoor
