/- The document's Bit; Refuse; great. -/
import Derived.Test.YtflbiichdjhaeaaDoorPduUnpack
namespace Go.Proofs.YtflbiichdjhaeaaDoor
open Go.RowKit

set_option maxHeartbeats 1000000 in
theorem great_any (A A' : Option Addr) (na ca nr cr : Nat) (w : World) :
    Calls Tryd.prog 10 #[.slice A na ca, .slice A' nr cr] w fun e w' => e = .returned (.bool (decide (2500 < na) || decide (300 < nr))) ∧ w = w' := by
  by_cases h : 2500 < na
  · go_in
    go_wp2
    go_ret
    exact ⟨by simp, rfl⟩
  · go_in
    go_wp2
    go_ret
    refine ⟨retb ?_, rfl⟩
    by_cases h3 : 300 < nr
    · simp [show (300 : Int) < nr by omega, h3]
    · simp [show ¬ (300 : Int) < nr by omega, h3]
      omega

theorem or128_all : ∀ y : Fin 256, Go.bits BinOp.or IntKind.u8 (y.1 : Int) 128 = 128 + (y.1 : Int) % 128 := by decide +kernel
theorem or128 (y : Int) (h0 : 0 ≤ y) (h : y < 256) : Go.bits BinOp.or IntKind.u8 y 128 = 128 + y % 128 := by
  obtain ⟨n, rfl⟩ := Int.eq_ofNat_of_zero_le h0
  exact or128_all ⟨n, by omega⟩
set_option maxHeartbeats 1000000 in
theorem refuse_any (fn code : Int) (w : World) :
    Calls Tryd.prog 27 #[.int .i64 fn, .int .i64 code] w fun e w' => e = .returned (.slice (some ⟨w.heap.size, 0, none⟩) 2 2) ∧ w' = w.alloc (.cells #[.int .u8 (128 + fn % 128), .int .u8 (code % 256)] 5) := by
  have h1 := or128 (fn % 256) (by omega) (by omega)
  have h2 : fn % 256 % 128 = fn % 128 := by omega
  rw [h2] at h1
  go_in
  go_wp2
  go_ret
  exact ⟨rfl, rfl⟩

set_option maxHeartbeats 1000000 in
theorem bit_any (A : Option Addr) (nb cb : Nat) (b : List Int) (hb : b.length = nb) (hbs : ∀ x ∈ b, 0 ≤ x ∧ x < 256) (k : Nat) (hk : k ≤ 1000000) (w : World) (hR : RdI w w.heap.size .u8 A b) :
    Calls Tryd.prog 39 #[.slice A nb cb, .int .i64 k] w fun e w' => e = .returned (.bool (bitAt b k)) ∧ w = w' := by
  obtain ⟨q, r, hkq, hr8⟩ : ∃ q r : Nat, k = 8 * q + r ∧ r < 8 := ⟨k / 8, k % 8, by omega, by omega⟩
  have HQ := Lib.hid hkq
  have q1 : (k : Int) / 8 = (q : Int) := by omega
  have q2 : (k : Int).tdiv 8 = (q : Int) := by rw [Int.tdiv_eq_ediv_of_nonneg (by omega)]; exact q1
  have r1 : (k : Int) % 8 = (r : Int) := by omega
  have r2 : (k : Int).tmod 8 = (r : Int) := by rw [Int.tmod_eq_emod_of_nonneg (by omega)]; exact r1
  by_cases hlt : q < nb
  · obtain ⟨g, off, x, rfl, hx, hc⟩ : ∃ g off x, A = some ⟨g, off, none⟩ ∧ b[q]? = some x ∧ w.cell? ⟨g, off + q, none⟩ = some (.int .u8 x) := by
      obtain ⟨g, off, e, h1, h2⟩ := hR (by omega)
      exact ⟨g, off, _, e, List.getElem?_eq_getElem (by omega), h2 q _ (List.getElem?_eq_getElem (by omega))⟩
    have hxb := hbs x (List.mem_of_getElem? hx)
    have HE := Lib.hid (show bitAt b k = decide (x / (2 : Int) ^ r % 2 = 1) by rw [bitAt_in b k x (by rw [show k / 8 = q by omega]; exact hx), show k % 8 = r by omega])
    clear hkq hbs hb hx hR
    go_in
    go_wp2
    go_loopw [5, 6] (fun c i wr => ∃ m : Nat, m ≤ r ∧ i = .int .i64 m ∧ c = .int .u8 (x / (2 : Int) ^ m) ∧ wr = w) (fun _ i _ => r - (intOf i).toNat)
    case atStart => exact ⟨0, by omega, rfl, by simp, rfl⟩
    case round =>
      obtain ⟨m, hm, rfl, rfl, rfl⟩ := hrel
      have hs := shr_small x m hxb.1 hxb.2
      have HS := Lib.hid (show x / (2 : Int) ^ (m + 1) = x / (2 : Int) ^ m / 2 by rw [Int.pow_succ, Int.ediv_ediv_of_nonneg (Int.pow_nonneg (by omega))])
      by_cases hmr : m < r
      · obtain ⟨y, hy⟩ : ∃ y, x / (2 : Int) ^ m = y := ⟨_, rfl⟩
        rw [hy] at hs HS ⊢
        have t2 : y.tdiv 2 = y / 2 := by rw [Int.tdiv_eq_ediv_of_nonneg hs.1]
        go_wp2
        exact ⟨⟨m + 1, by omega, by go_num, by rw [HS.out], trivial⟩, by simp [intOf]; omega⟩
      · obtain rfl : m = r := by omega
        go_wp2
        go_ret
        refine ⟨?_, rfl⟩
        rw [HE.out]
        congr 2
  · have HE := Lib.hid (bitAt_out b k (by omega))
    clear hkq hbs hb hR
    go_in
    go_wp2
    go_ret
    exact ⟨by rw [HE.out]; rfl, rfl⟩
end Go.Proofs.YtflbiichdjhaeaaDoor
