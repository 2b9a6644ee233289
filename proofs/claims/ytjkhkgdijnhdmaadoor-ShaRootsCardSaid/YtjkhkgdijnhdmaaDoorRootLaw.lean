/- The law ShaRoots. -/
import Derived.Test.YtjkhkgdijnhdmaaDoorRootRoot
namespace Go.Proofs.YtjkhkgdijnhdmaaDoor
open Go.RowKit

/-- Has a number no part below d? -/
def prN (n d : Nat) : Bool := (List.range d).all fun e => decide (e < 2) || decide (n < e * e) || n % e != 0
def isP (n : Nat) : Bool := prN n 20
def cntP (n : Nat) : Nat := ((List.range n).filter fun m => decide (2 ≤ m) && isP m).length
theorem prN_two (n : Nat) : prN n 2 = true := rfl
theorem prN_no (n d : Nat) (h2 : 2 ≤ d) (hd : d * d ≤ n) (h : n % d = 0) : prN n (d + 1) = false := by
  unfold prN
  rw [List.range_succ, List.all_append]
  simp [h]
  omega
theorem prN_yes (n d : Nat) (h : n % d ≠ 0) : prN n (d + 1) = prN n d := by
  unfold prN
  rw [List.range_succ, List.all_append]
  simp [h]
theorem prN_end (n d : Nat) (hd : d ≤ 20) (h : n < d * d) : prN n d = isP n := by
  unfold isP prN
  rw [Bool.eq_iff_iff]
  simp only [List.all_eq_true, List.mem_range]
  constructor
  · intro H e he
    by_cases hed : e < d
    · exact H e hed
    · have : n < e * e := Nat.lt_of_lt_of_le h (Nat.mul_le_mul (by omega) (by omega))
      simp [this]
  · intro H e he
    exact H e (by omega)
theorem cntP_no (n : Nat) (h : isP n = false) : cntP (n + 1) = cntP n := by
  unfold cntP
  rw [List.range_succ, List.filter_append, List.length_append]
  simp [h]
theorem cntP_yes (n : Nat) (h2 : 2 ≤ n) (h : isP n = true) : cntP (n + 1) = cntP n + 1 := by
  unfold cntP
  rw [List.range_succ, List.filter_append, List.length_append]
  simp [h, h2]
/-- Has a word a whole part, so that both are a third, or second, root? -/
def cub (p wd h : Nat) : Bool := decide ((h * 4294967296 + wd) * (h * 4294967296 + wd) * (h * 4294967296 + wd) ≤ p * 2 ^ 96) && decide (p * 2 ^ 96 < (h * 4294967296 + wd + 1) * (h * 4294967296 + wd + 1) * (h * 4294967296 + wd + 1))
def squ (p wd h : Nat) : Bool := decide ((h * 4294967296 + wd) * (h * 4294967296 + wd) ≤ p * 2 ^ 64) && decide (p * 2 ^ 64 < (h * 4294967296 + wd + 1) * (h * 4294967296 + wd + 1))
def okP (n : Nat) : Bool := !decide (2 ≤ n) || !isP n ||
  (decide (cntP n < 64) && (List.range 20).any (fun h => decide (1 ≤ h) && cub n (Sh.kTab.getD (cntP n) 0) h) && (decide (8 ≤ cntP n) || (List.range 20).any (fun h => decide (1 ≤ h) && squ n (Sh.first.list.getD (cntP n) 0) h)))
theorem all_ok : (List.range 312).all okP = true := by decide +kernel
theorem cnt_end : cntP 312 = 64 := by decide +kernel
theorem cnt_two : cntP 2 = 0 := by decide
theorem ok_at (n : Nat) (h2 : 2 ≤ n) (h : n < 312) (hp : isP n = true) : cntP n < 64 ∧ (∃ h, 1 ≤ h ∧ h < 20 ∧ cub n (Sh.kTab.getD (cntP n) 0) h = true) ∧ (cntP n < 8 → ∃ h, 1 ≤ h ∧ h < 20 ∧ squ n (Sh.first.list.getD (cntP n) 0) h = true) := by
  have k := List.all_eq_true.1 all_ok n (List.mem_range.2 h)
  unfold okP at k
  rw [hp] at k
  simp only [h2, decide_true, Bool.not_true, Bool.false_or, Bool.and_eq_true, decide_eq_true_eq, Bool.or_eq_true, List.any_eq_true, List.mem_range] at k
  obtain ⟨⟨k1, x, k2, k3, k4⟩, k5⟩ := k
  refine ⟨k1, ⟨x, k3, k2, k4⟩, fun h8 => ?_⟩
  rcases k5 with k5 | ⟨x, k6, k7, k8⟩
  · omega
  · exact ⟨x, k7, k6, k8⟩
theorem kTab_in : ∀ x ∈ Sh.kTab, x < 4294967296 := by decide
theorem first_in : ∀ x ∈ Sh.first.list, x < 4294967296 := by decide
set_option maxRecDepth 100000 in
set_option maxHeartbeats 8000000 in
theorem law_roots (w : World) (hT : Tab w 0 .u32 firstI) (hT2 : Tab w 1 .u32 kI) :
    Calls Tryd.prog 4 #[] w fun e w' => e = .returned (.bool true) ∧ Below w.heap.size w w' := by
  have HAL := Lib.hid (alive_own w hT hT2)
  have HE := Lib.hid cnt_end
  have HK := Lib.hid (fun W => const_ref W)
  have HF := Lib.hid (fun W => first_ref W)
  obtain ⟨KT, hKT⟩ : ∃ K, Sh.kTab = K := ⟨_, rfl⟩
  obtain ⟨FT, hFT⟩ : ∃ K, Sh.first.list = K := ⟨_, rfl⟩
  have hkl : KT.length = 64 := by rw [← hKT]; rfl
  have hfl : FT.length = 8 := by rw [← hFT]; rfl
  have HKI : Hid (∀ x ∈ KT, x < 4294967296) := Lib.hid (by rw [← hKT]; exact kTab_in)
  have HFI : Hid (∀ x ∈ FT, x < 4294967296) := Lib.hid (by rw [← hFT]; exact first_in)
  have HOK := Lib.hid ok_at
  rw [hKT] at HK HOK
  rw [hFT] at HF HOK
  clear hT hT2 hKT hFT
  go_in
  go_wp2_with fail
  refine HAL.out.mono ?_
  rintro e w1 ⟨rfl, hb1⟩
  go_wp2_with fail
  refine (HK.out w1).mono ?_
  rintro e w9 ⟨rfl, h9⟩
  obtain ⟨w2, hw2⟩ : ∃ w2, w1.alloc (.cells (arrU KT) 25) = w2 := ⟨_, rfl⟩
  have hb2 : Below w1.heap.size w1 w2 := by rw [← hw2]; exact (Below.refl _ w1).alloc (Nat.le_refl _) _
  have hX2 : Held w2 w1.heap.size 25 (arrU KT) := by rw [← hw2]; exact Held.new _ _ _
  rw [hw2] at h9
  obtain rfl := h9.symm
  have hs1 := hb1.size
  have hb2w := hb1.trans (hb2.mono hs1)
  go_wp2_with fail
  refine (HF.out w2).mono ?_
  rintro e w8 ⟨rfl, h8⟩
  obtain ⟨w3, hw3⟩ : ∃ w3, w2.alloc (.cells (arrU FT) 25) = w3 := ⟨_, rfl⟩
  have hb3 : Below w2.heap.size w2 w3 := by rw [← hw3]; exact (Below.refl _ w2).alloc (Nat.le_refl _) _
  have hF3 : Held w3 w2.heap.size 25 (arrU FT) := by rw [← hw3]; exact Held.new _ _ _
  rw [hw3] at h8
  obtain rfl := h8.symm
  have hs2 := hb2.size
  have hs3 := hb3.size
  have hb3w := hb2w.trans (hb3.mono (by omega))
  have hK3 := hX2.below hb3 hX2.lt
  have HB := Lib.hid hb3w
  clear hb1 hb2 hb3 hb2w hb3w hX2 hw2 hw3 HK HF HAL
  go_wp2_with fail
  go_loopw [4, 5] (fun u4 u5 wx => ∃ (n k : Nat), 2 ≤ n ∧ n ≤ 312 ∧ Hid (cntP n = k) ∧ k ≤ 64 ∧ u4 = .int .i64 (k : Int) ∧ u5 = .int .u64 (n : Int) ∧ Below w3.heap.size w3 wx) (fun _ i _ => 312 - (intOf i).toNat)
  case atStart => exact ⟨2, 0, by omega, by omega, cnt_two, by omega, rfl, rfl, Below.refl _ _⟩
  case round =>
    obtain ⟨n, k, hn2, hn3, HC, hk, rfl, rfl, hbr⟩ := hrel
    have hzr := hbr.size
    by_cases hlt : k < 64
    · have hn4 : n < 312 := by
        rcases Nat.lt_or_ge n 312 with h | h
        · exact h
        · obtain rfl : n = 312 := by omega
          have h1 := HC.out
          rw [HE.out] at h1
          omega
      obtain ⟨wq, rfl⟩ : ∃ wq, wq = wr := ⟨wr, rfl⟩
      go_wp2_with fail
      go_loopw [6, 7] (fun u6 u7 wx => ∃ (d : Nat) (b : Bool), 2 ≤ d ∧ d ≤ 19 ∧ Hid (prN n d = b) ∧ u6 = .bool b ∧ u7 = .int .u64 (d : Int) ∧ wx = wq) (fun _ i _ => 20 - (intOf i).toNat)
      case atStart => exact ⟨2, true, by omega, by omega, prN_two n, rfl, rfl, rfl⟩
      case round =>
        obtain ⟨d, b, hd2, hd3, HP, rfl, rfl, rfl⟩ := hrel
        obtain ⟨q, hq⟩ : ∃ q, d * d = q := ⟨_, rfl⟩
        have hqi : (d : Int) * (d : Int) = (q : Int) := by rw [← hq]; push_cast; rfl
        have hql : q ≤ 400 := by rw [← hq]; exact Nat.le_trans (Nat.mul_le_mul hd3 hd3) (by decide)
        have HQ := Lib.hid hq
        clear hq
        by_cases hdn : q ≤ n
        · have hd4 : d ≤ 17 := by
            rcases Nat.lt_or_ge d 18 with h | h
            · omega
            · have : 18 * 18 ≤ d * d := Nat.mul_le_mul h h
              rw [HQ.out] at this
              omega
          obtain ⟨m, hm⟩ : ∃ m, n % d = m := ⟨_, rfl⟩
          have hmi : (n : Int) % (d : Int) = (m : Int) := by rw [← hm]; push_cast; rfl
          have hmt : (n : Int).tmod (d : Int) = (m : Int) := by rw [Int.tmod_eq_emod_of_nonneg (by omega)]; exact hmi
          have HM := Lib.hid hm
          clear hm
          by_cases hm0 : m = 0
          · have HN := Lib.hid (prN_no n d hd2 (by rw [HQ.out]; exact hdn) (by rw [HM.out]; exact hm0))
            go_wp2_with (first | (rw [hqi]) | (rw [hmi]) | (rw [hmt]) | fail)
            exact ⟨⟨d + 1, false, by omega, by omega, HN, rfl, by go_num, trivial⟩, by simp [intOf]; omega⟩
          · have HN := Lib.hid (prN_yes n d (by rw [HM.out]; exact hm0))
            go_wp2_with (first | (rw [hqi]) | (rw [hmi]) | (rw [hmt]) | fail)
            exact ⟨⟨d + 1, b, by omega, by omega, HN.out.trans HP.out, rfl, by go_num, trivial⟩, by simp [intOf]; omega⟩
        · have HE2 := Lib.hid ((prN_end n d (by omega) (by rw [HQ.out]; omega)).symm.trans HP.out)
          cases b with
          | false =>
            have HN := Lib.hid ((cntP_no n HE2.out).trans HC.out)
            clear HP
            go_wp2_with (first | (rw [hqi]) | fail)
            exact ⟨⟨n + 1, k, by omega, by omega, HN, by omega, rfl, by go_num, hbr⟩, by simp [intOf]; omega⟩
          | true =>
            obtain ⟨k1, ⟨W0, w01, w02, w03⟩, k3⟩ := HOK.out n hn2 hn4 HE2.out
            have HN := Lib.hid ((cntP_yes n hn2 HE2.out).trans (congrArg (· + 1) HC.out))
            rw [HC.out] at w03 k3
            obtain ⟨wd, hwd⟩ : ∃ wd, KT[k]? = some wd := ⟨_, List.getElem?_eq_getElem (by omega)⟩
            rw [List.getD, hwd] at w03
            unfold cub at w03
            simp only [Option.getD_some, Bool.and_eq_true, decide_eq_true_eq] at w03
            have hwl := HKI.out wd (List.mem_of_getElem? hwd)
            have hc1 : wr.cell? ⟨w1.heap.size, k, none⟩ = some (.int .u32 (wd : Int)) := (hbr.cell (p := ⟨w1.heap.size, k, none⟩) hK3.lt).trans ((hK3.cell k).trans (arrU_at _ _ _ hwd))
            have HR3 := Lib.hid (root3 n wd W0 (by omega) hwl w01 w02 w03.1 w03.2 wr)
            have HK3 := Lib.hid k3
            clear HP w03 hwd k3 k1
            go_wp2_with (first | (rw [hqi]) | fail)
            refine HR3.out.mono ?_
            rintro e w5 ⟨rfl, hb5⟩
            have hb5q := hbr.trans (hb5.mono hzr)
            by_cases h8 : k < 8
            · obtain ⟨V0, v01, v02, v03⟩ := HK3.out h8
              obtain ⟨wf, hwf⟩ : ∃ wf, FT[k]? = some wf := ⟨_, List.getElem?_eq_getElem (by omega)⟩
              rw [List.getD, hwf] at v03
              unfold squ at v03
              simp only [Option.getD_some, Bool.and_eq_true, decide_eq_true_eq] at v03
              have hfl2 := HFI.out wf (List.mem_of_getElem? hwf)
              have hc2 : w5.cell? ⟨w2.heap.size, k, none⟩ = some (.int .u32 (wf : Int)) := (hb5q.cell (p := ⟨w2.heap.size, k, none⟩) hF3.lt).trans ((hF3.cell k).trans (arrU_at _ _ _ hwf))
              have HR2 := Lib.hid (root2 n wf V0 (by omega) hfl2 v01 v02 v03.1 v03.2 w5)
              clear v03 hwf
              go_wp2_with fail
              refine HR2.out.mono ?_
              rintro e w6 ⟨rfl, hb6⟩
              have hb6q := hb5q.trans (hb6.mono hb5q.size)
              go_wp2_with fail
              exact ⟨⟨n + 1, k + 1, by omega, by omega, HN, by omega, by go_num, by go_num, hb6q⟩, by simp [intOf]; omega⟩
            · go_wp2_with fail
              exact ⟨⟨n + 1, k + 1, by omega, by omega, HN, by omega, by go_num, by go_num, hb5q⟩, by simp [intOf]; omega⟩
    · obtain rfl : k = 64 := by omega
      go_wp2_with fail
      go_ret
      exact ⟨retb (by simp), HB.out.trans (hbr.mono HB.out.size)⟩
end Go.Proofs.YtjkhkgdijnhdmaaDoor
