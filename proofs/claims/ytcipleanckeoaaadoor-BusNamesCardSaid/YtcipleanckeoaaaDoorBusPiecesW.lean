/- The law BusPieces: what comes of acts, and its walk. -/
import Derived.Test.YtcipleanckeoaaaDoorBusAlive
import Derived.BigQuiet
namespace Go.Proofs.YtcipleanckeoaaaDoor
open Go.RowKit
attribute [local go_sem] Oper.semAt_some
set_option linter.unusedVariables false
set_option linter.unusedSimpArgs false
set_option maxRecDepth 100000
theorem rtuB_le (u : Int) (b : List Int) : ((rtuB u b).getD []).length ≤ 256 := by
  unfold rtuB
  split
  · rename_i h
    rw [Option.getD_some, rtuL_len]
    omega
  · simp
theorem rightP_le (req regs : List Int) (unit : Int) : (rightP req regs unit).length ≤ 256 := by
  unfold rightP
  split
  · simp
  · split
    · simp
    · split
      · simp
      · split
        · simp
        · exact rtuB_le _ _
theorem bytesA_le (req : List Int) (a : ActP) : (bytesA req a).length ≤ 300 := by
  unfold bytesA
  split
  · simp
  · rename_i hm
    have hm : mayA a = true := by simpa using hm
    have hq : mayQ a := of_decide_eq_true hm
    split
    · exact hq.2.2.2.2.1
    · split
      · simp
      · split
        · exact Nat.le_trans (rightP_le _ _ _) (by omega)
        · split
          · split
            · simp
            · split
              · simp
              · exact Nat.le_trans (rtuB_le _ _) (by omega)
          · split
            · rw [List.length_take]
              have := rightP_le req a.regs (-1)
              omega
            · split
              · unfold spoilL
                rw [List.length_set]
                exact Nat.le_trans (rightP_le _ _ _) (by omega)
              · exact Nat.le_trans (rightP_le _ _ _) (by omega)
/-- How many bytes pieces have. -/
def lensL (zs : List (Int × List Int)) : Nat := (zs.map fun z => z.2.length).sum
theorem lensL_app (a b : List (Int × List Int)) : lensL (a ++ b) = lensL a + lensL b := by simp [lensL]
theorem lensL_perm {a b : List (Int × List Int)} (h : a.Perm b) : lensL a = lensL b := (h.map _).sum_nat
theorem lens_act (t : Int) (req : List Int) (a : ActP) : lensL (actL t req a) = (bytesA req a).length := by
  unfold actL
  split
  · rename_i h; rw [h]; rfl
  · split
    · simp only [lensL, List.map_cons, List.map_nil, List.sum_cons, List.sum_nil, List.length_take, List.length_drop]; omega
    · simp [lensL]
def sumB (req : List Int) (l : List ActP) : Nat := (l.map fun a => (bytesA req a).length).sum
theorem lens_play (t : Int) (req : List Int) (l : List ActP) : lensL (playL t req l) = sumB req l := by
  induction l with
  | nil => rfl
  | cons a r ih =>
    have : playL t req (a :: r) = actL t req a ++ playL t req r := by simp [playL]
    rw [this, lensL_app, lens_act, ih]
    simp [sumB]
theorem sumB_next (req : List Int) (l : List ActP) (i : Nat) (a : ActP) (h : l[i]? = some a) : sumB req (l.take (i + 1)) = sumB req (l.take i) + (bytesA req a).length := by
  unfold sumB
  rw [List.take_add_one, h, List.map_append, List.sum_append]; simp
theorem sumB_le (req : List Int) (l : List ActP) : sumB req l ≤ 300 * l.length := by
  induction l with
  | nil => simp [sumB]
  | cons a r ih =>
    have h : sumB req (a :: r) = (bytesA req a).length + sumB req r := by simp [sumB]
    have := bytesA_le req a
    rw [h, List.length_cons]
    omega
theorem play_each (t : Int) (req : List Int) (l : List ActP) (hm : l.all mayA = true) : ∀ z ∈ playL t req l, t ≤ z.1 ∧ 0 < z.2.length := by
  intro z hz
  obtain ⟨a, ha, hz⟩ := List.mem_flatMap.mp hz
  have hq : mayQ a := of_decide_eq_true (List.all_eq_true.mp hm a ha)
  have h1 := hq.2.1
  have h2 := hq.2.2.1
  unfold actL at hz
  split at hz
  · cases hz
  · rename_i hb
    have hb : 0 < (bytesA req a).length := List.length_pos_iff.mpr hb
    split at hz
    · simp only [List.mem_cons, List.not_mem_nil, or_false] at hz
      rcases hz with rfl | rfl
      · exact ⟨by show t ≤ t + a.wait; omega, by show 0 < (List.take _ _).length; rw [List.length_take]; omega⟩
      · exact ⟨by show t ≤ t + a.wait + a.gap; omega, by show 0 < (List.drop _ _).length; rw [List.length_drop]; omega⟩
    · rw [List.mem_singleton.mp hz]
      exact ⟨by show t ≤ t + a.wait; omega, hb⟩
theorem lens_next (rs : List (Int × List Int)) (i : Nat) (z : Int × List Int) (h : rs[i]? = some z) : lensL (rs.drop i) = z.2.length + lensL (rs.drop (i + 1)) := by
  obtain ⟨hi, rfl⟩ := List.getElem?_eq_some_iff.mp h
  rw [List.drop_eq_getElem_cons hi]
  simp only [lensL, List.map_cons, List.sum_cons]
theorem lens_le (rs : List (Int × List Int)) (i : Nat) : lensL (rs.drop i) ≤ lensL rs := by
  conv => rhs; rw [← List.take_append_drop i rs]
  rw [lensL_app]; omega
def okA (a : ActP) : Bool := decide (a.regs.length ≤ 200) && decide (a.data.length ≤ 400)
def greatB (l : List ActP) : Bool := !(decide (l.length ≤ 20) && l.all okA)
theorem great_yes {l : List ActP} (h : 20 < l.length ∨ ∃ a ∈ l, okA a = false) : greatB l = true := by
  unfold greatB
  rcases h with h | ⟨a, ha, h⟩
  · rw [decide_eq_false (by omega)]; rfl
  · have : l.all okA = false := by
      cases hb : l.all okA with
      | false => rfl
      | true => rw [List.all_eq_true.mp hb a ha] at h; cases h
    rw [this, Bool.and_false]; rfl
set_option maxHeartbeats 2000000 in
theorem great22_any (A : Option Addr) (n c : Nat) (l : List ActP) (w : World) (hA : ActsI w A n c l) :
    Calls Tryd.prog 10 #[.slice A n c] w fun e w' => e = .returned (.int .i64 (if greatB l then 1 else 0)) ∧ w = w' := by
  have hl := hA.1
  have hnm : n ≤ maxLen := Nat.le_trans hA.2.1 hA.2.2.1
  unfold maxLen at hnm
  have HA := Lib.hid hA
  have HY := Lib.hid (fun h => great_yes (l := l) h)
  have HNO := Lib.hid (show l.length ≤ 20 → l.all okA = true → greatB l = false from fun h1 h2 => by unfold greatB; rw [decide_eq_true h1, h2]; rfl)
  obtain ⟨G, hG⟩ : ∃ q, greatB l = q := ⟨_, rfl⟩
  rw [hG] at HY HNO ⊢
  clear hA hG
  by_cases h20 : 20 < n
  · have d1 : decide ((n : Int) > 20) = true := decide_eq_true (by omega)
    have d1n : decide (20 < n) = true := decide_eq_true h20
    have d1i : decide ((20 : Int) < (n : Int)) = true := decide_eq_true (by omega)
    obtain rfl : G = true := HY.out (.inl (by omega))
    go_in
    go_wp2_with fail
    go_ret
    exact ⟨rfl, rfl⟩
  · have d1 : decide ((n : Int) > 20) = false := decide_eq_false (by omega)
    have d1n : decide (20 < n) = false := decide_eq_false h20
    have d1i : decide ((20 : Int) < (n : Int)) = false := decide_eq_false (by omega)
    go_in
    go_wp2_with fail
    go_loopw [3] (fun u wr => ∃ i : Nat, i ≤ n ∧ u = .int .i64 i ∧ (l.take i).all okA = true ∧ wr = w) (fun u _ => n - (intOf u).toNat)
    case atStart => exact ⟨0, by omega, rfl, rfl, rfl⟩
    case round =>
      obtain ⟨i, hi, rfl, hall, rfl⟩ := hrel
      have HALL := Lib.hid hall
      clear hall
      by_cases hlt : i < n
      · have d2 : decide ((i : Int) < (n : Int)) = true := decide_eq_true (by omega)
        have d2n : decide (i < n) = true := decide_eq_true hlt
        obtain ⟨a, ha⟩ : ∃ a, l[i]? = some a := ⟨_, List.getElem?_eq_getElem (by omega)⟩
        obtain ⟨g, off, rfl, hg, hc⟩ := HA.out.2.2.2.2 (by omega)
        obtain ⟨Ar, nr, cr, D, nd, cd, k1, k2, k3⟩ := hc i a ha
        obtain ⟨c0, c1, c2, c3, c4, c5, c6, c7, c8⟩ := act_cells k1
        have hr1 : a.regs.length = nr := k2.1
        have hd1 : a.data.length = nd := k3.1
        have HAM := Lib.hid (List.mem_of_getElem? ha)
        have HTK := Lib.hid (all_take l i a ha okA)
        have HOA := Lib.hid (show okA a = (decide (nr ≤ 200) && decide (nd ≤ 400)) by unfold okA; rw [hr1, hd1])
        clear hc ha k1 k2 k3 c0 c1 c2 c4 c5 c6 c7 hr1 hd1
        by_cases hr : 200 < nr
        · have d3 : decide ((nr : Int) > 200) = true := decide_eq_true (by omega)
          have d3n : decide (200 < nr) = true := decide_eq_true hr
          obtain rfl : G = true := HY.out (.inr ⟨a, HAM.out, by rw [HOA.out, decide_eq_false (by omega)]; rfl⟩)
          go_wp2_with fail
          go_ret
          exact ⟨rfl, rfl⟩
        · have d3 : decide ((nr : Int) > 200) = false := decide_eq_false (by omega)
          have d3n : decide (200 < nr) = false := decide_eq_false hr
          by_cases hd : 400 < nd
          · have d4 : decide ((nd : Int) > 400) = true := decide_eq_true (by omega)
            have d4n : decide (400 < nd) = true := decide_eq_true hd
            obtain rfl : G = true := HY.out (.inr ⟨a, HAM.out, by rw [HOA.out, decide_eq_false (show ¬ nd ≤ 400 by omega), Bool.and_false]⟩)
            go_wp2_with fail
            go_ret
            exact ⟨rfl, rfl⟩
          · have d4 : decide ((nd : Int) > 400) = false := decide_eq_false (by omega)
            have d4n : decide (400 < nd) = false := decide_eq_false hd
            have HNX := Lib.hid (show (l.take (i + 1)).all okA = true by rw [HTK.out, HALL.out, HOA.out, decide_eq_true (show nr ≤ 200 by omega), decide_eq_true (show nd ≤ 400 by omega)]; rfl)
            go_wp2_with fail
            go_roundw
            case rel => exact ⟨i + 1, by omega, by go_num, HNX.out, by first | rfl | trivial⟩
            case measure => simp [intOf]; omega
      · have d2 : decide ((i : Int) < (n : Int)) = false := decide_eq_false (by omega)
        have d2n : decide (i < n) = false := decide_eq_false hlt
        obtain rfl : i = n := by omega
        have hz : l.take i = l := List.take_of_length_le (by omega)
        obtain rfl : G = false := HNO.out (by omega) (by have := HALL.out; rwa [hz] at this)
        clear hz
        go_wp2_with fail
        go_ret
        exact ⟨rfl, rfl⟩
theorem play_arg (t : Int) (A : Option Addr) (n c : Nat) (L : Option Addr) (nl cl : Nat) (w : World) (ht : t < 0 ∨ 2305843009213693952 < t) :
    Calls Tryd.prog 13 #[.int .i64 t, .slice A n c, .slice L nl cl] w fun e w' => e = .returned (.tuple #[.slice none 0 0, .int .i64 2]) ∧ Below w.heap.size w w' := by
  by_cases h0 : t < 0
  · have d1 : decide (t < 0) = true := decide_eq_true h0
    go_in
    go_wp2_with fail
    go_ret2
    exact ⟨rfl, Below.refl _ _⟩
  · have d1 : decide (t < 0) = false := decide_eq_false h0
    have d2 : decide (2305843009213693952 < t) = true := decide_eq_true (by omega)
    go_in
    go_wp2_with fail
    go_ret2
    exact ⟨rfl, Below.refl _ _⟩
theorem play_bus (t : Int) (A : Option Addr) (n c : Nat) (L : Option Addr) (nl cl : Nat) (l : List ActP) (w : World) (hN : NamesT w) (hA : ActsI w L nl cl l) (hok : ActsOk l) (h20 : nl ≤ 100000)
    (ht : 0 ≤ t ∧ t ≤ 2305843009213693952) (hm : l.all mayA = false) :
    Calls Tryd.prog 13 #[.int .i64 t, .slice A n c, .slice L nl cl] w fun e w' => e = .returned (.tuple #[.slice none 0 0, .int .i64 220]) ∧ Below w.heap.size w w' := by
  have HCF := Lib.hid (conta_any L nl cl l w hN hA hok h20)
  rw [hm, Bool.not_false] at HCF
  have d1 : decide (t < 0) = false := decide_eq_false (by omega)
  have d2' : decide (2305843009213693952 < t) = false := decide_eq_false (by omega)
  clear hN hA hok hm
  go_in
  go_wp2_with fail
  refine HCF.out.mono ?_
  rintro e w2 ⟨rfl, hb2⟩
  go_wp2_with fail
  go_ret2
  exact ⟨rfl, hb2⟩
set_option maxHeartbeats 8000000 in
theorem pieces22_good (t : Int) (A : Option Addr) (n c : Nat) (req : List Int) (L : Option Addr) (nl cl : Nat) (l : List ActP) (w : World) (hT : LimT w) (hN : NamesT w) (hS : SlI w w.heap.size .u8 A n c req) (h8 : Byte8 req) (hA : ActsI w L nl cl l) (hok : ActsOk l) (h300 : n ≤ 300) (h20 : nl ≤ 20)
    (ht : 0 ≤ t ∧ t ≤ 2305843009213693952) (hm : l.all mayA = true)
    (HG : Hid (∀ V, Below w.heap.size w V → Calls Tryd.prog 10 #[.slice L nl cl] V fun e w' => e = .returned (.int .i64 0) ∧ V = w')) :
    Calls Tryd.prog 5 #[.int .i64 t, .slice A n c, .slice L nl cl] w fun e w' => e = .returned (.bool true) ∧ Below w.heap.size w w' := by
  have HAL := Lib.hid (alive22_any w hT hN)
  have HW := Lib.hid (fun (V : World) (h : Below w.heap.size w V) => (⟨hT.up h, hN.up h, hS.up h, hA.up h⟩ : LimT V ∧ NamesT V ∧ SlI V V.heap.size .u8 A n c req ∧ ActsI V L nl cl l))
  have HPL := Lib.hid (fun (V : World) (h : Below w.heap.size w V) => play_calls t A n c req L nl cl l V (hT.up h) (hN.up h) (hS.up h) (by omega) h8 (hA.up h) hok h20 ht hm)
  have hll := hA.1
  have H8 := Lib.hid h8
  have HOK := Lib.hid hok
  have HPE := Lib.hid (play_each t req l hm)
  have HPN := Lib.hid (playL_len t req l)
  clear hT hN hS h8 hA hok hm
  have d1 : decide ((n : Int) > 300) = false := decide_eq_false (by omega)
  have d1n : decide (300 < n) = false := decide_eq_false (by omega)
  go_in
  go_wp2_with fail
  refine HAL.out.mono ?_
  rintro e w1 ⟨rfl, b1⟩
  have HB1 := Lib.hid b1
  clear b1
  go_wp2_with fail
  refine (HG.out w1 HB1.out).mono ?_
  rintro e w2 ⟨rfl, rfl⟩
  go_wp2_with fail
  refine (HPL.out w1 HB1.out).mono ?_
  rintro e w3 ⟨R, nr, cr, rs, rfl, hp, hs, b3⟩
  have HB3 := Lib.hid (HB1.out.trans (b3.mono HB1.out.size))
  have HP := Lib.hid (fun (V : World) (h : Below w3.heap.size w3 V) => hp.up h)
  have hnr := hp.1
  have HPM := Lib.hid (And.intro hs.perm hs.up)
  have hsum : sumB req l = lensL rs := by rw [← lens_play t req l]; exact (lensL_perm hs.perm).symm
  have hle : sumB req l ≤ 6000 := by have := sumB_le req l; omega
  have hrl : nr ≤ 2 * nl := by have h1 := hs.perm.length_eq; have h2 := HPN.out; omega
  have HSU := Lib.hid hsum
  have HLE := Lib.hid hle
  clear hp hs b3 hsum hle
  go_wp2_with fail
  go_loopw [10, 11] (fun u v wr => ∃ i : Nat, i ≤ nl ∧ u = .int .i64 (sumB req (l.take i) : Nat) ∧ v = .int .i64 i ∧ Below w3.heap.size w3 wr) (fun _ v _ => nl - (intOf v).toNat)
  case atStart => exact ⟨0, by omega, by rw [List.take_zero]; rfl, rfl, Below.refl _ _⟩
  case round =>
    obtain ⟨i, hi, rfl, rfl, hb⟩ := hrel
    have hwr := HB3.out.trans (hb.mono HB3.out.size)
    have HWR := Lib.hid (And.intro hb hwr)
    by_cases hlt : i < nl
    · have d2 : decide ((i : Int) < (nl : Int)) = true := decide_eq_true (by omega)
      have d2n : decide (i < nl) = true := decide_eq_true hlt
      obtain ⟨ac, ha⟩ : ∃ a, l[i]? = some a := ⟨_, List.getElem?_eq_getElem (by omega)⟩
      obtain ⟨hTW, hNW, hSW, hAW⟩ := HW.out wr hwr
      obtain ⟨g, off, rfl, hg, hc⟩ := hAW.2.2.2.2 (by omega)
      obtain ⟨Ar, nr2, cr2, D, nd, cd, k1, k2, k3⟩ := hc i ac ha
      obtain ⟨c0, c1, c2, c3, c4, c5, c6, c7, c8⟩ := act_cells k1
      have HBY := Lib.hid (bbytes_any A n c req (.agg (ac.cells Ar nr2 cr2 D nd cd)) ac wr hTW hNW hSW (by omega) H8.out ⟨Ar, nr2, cr2, D, nd, cd, rfl, k2, k3⟩ (HOK.out ac (List.mem_of_getElem? ha)))
      unfold ActP.cells at HBY
      have HNX := Lib.hid (sumB_next req l i ac ha)
      have hs1 : sumB req (l.take i) ≤ 6000 := by
        have := sumB_le req (l.take i)
        rw [List.length_take] at this; omega
      have hb5 := bytesA_le req ac
      obtain ⟨s, hs⟩ : ∃ s, sumB req (l.take i) = s := ⟨_, rfl⟩
      rw [hs] at HNX hs1 ⊢
      clear hTW hNW hSW hAW hc k1 k2 k3 ha hb hwr hs
      go_wp2_with fail
      refine HBY.out.mono ?_
      rintro e w5 ⟨A5, n5, c5, rfl, s5, b5⟩
      have hn5 : n5 = (bytesA req ac).length := s5.1.symm
      have HB5 := Lib.hid (HWR.out.1.trans (b5.mono HWR.out.1.size))
      have hn5b : n5 ≤ 300 := by omega
      have HN5 := Lib.hid hn5
      clear s5 b5 hn5
      go_wp2_with fail
      go_roundw
      case rel => exact ⟨i + 1, by omega, by rw [HNX.out, ← HN5.out]; go_num, by go_num, HB5.out⟩
      case measure => simp [intOf]; omega
    · have d2 : decide ((i : Int) < (nl : Int)) = false := decide_eq_false (by omega)
      have d2n : decide (i < nl) = false := decide_eq_false hlt
      obtain rfl : i = nl := by omega
      have htk : l.take i = l := List.take_of_length_le (by omega)
      rw [htk, HSU.out]
      have hle2 : lensL rs ≤ 6000 := by rw [← HSU.out]; exact HLE.out
      have HLE2 := Lib.hid hle2
      clear htk hle2 hb hwr
      go_wp2_with fail
      go_loopw [10, 12] (fun u v wk => ∃ k : Nat, k ≤ nr ∧ u = .int .i64 (lensL (rs.drop k) : Nat) ∧ v = .int .i64 k ∧ Below w3.heap.size w3 wk) (fun _ v _ => nr - (intOf v).toNat)
      case atStart => exact ⟨0, by omega, rfl, rfl, HWR.out.1⟩
      case round =>
        obtain ⟨k, hk, rfl, rfl, hb2⟩ := hrel
        have hwk := HB3.out.trans (hb2.mono HB3.out.size)
        have hB2 := Lib.hid (And.intro hb2 hwk)
        have hlk : lensL (rs.drop k) ≤ 6000 := Nat.le_trans (lens_le rs k) HLE2.out
        by_cases hlt2 : k < nr
        · have d3 : decide ((k : Int) < (nr : Int)) = true := decide_eq_true (by omega)
          have d3n : decide (k < nr) = true := decide_eq_true hlt2
          obtain ⟨z, hz⟩ : ∃ z, rs[k]? = some z := ⟨_, List.getElem?_eq_getElem (by omega)⟩
          obtain ⟨g, rfl, hg, hc⟩ := (HP.out wr hb2).2.2.2.2 (by omega)
          obtain ⟨D, nd, cd, e0, e1, e2⟩ := hc k z hz
          have hzm : z ∈ playL t req l := HPM.out.1.mem_iff.mp (List.mem_of_getElem? hz)
          obtain ⟨hz1, hz2⟩ := HPE.out z hzm
          have hnd : nd = z.2.length := e2.1.symm
          have hnx := lens_next rs k z hz
          obtain ⟨at1, hat1⟩ : ∃ q, z.1 = q := ⟨_, rfl⟩
          rw [hat1] at e0 hz1
          have t1 : decide (at1 < t) = false := decide_eq_false (by omega)
          have t3 : ((nd : Int) == 0) = false := by simp; omega
          have t3n : (nd == 0) = false := by simp; omega
          have t3m : ¬ nd = 0 := by omega
          obtain ⟨s2, hs2⟩ : ∃ q, lensL (rs.drop (k + 1)) = q := ⟨_, rfl⟩
          rw [hs2, ← hnd] at hnx
          obtain ⟨s1, hs1⟩ : ∃ q, lensL (rs.drop k) = q := ⟨_, rfl⟩
          rw [hs1] at hnx hlk ⊢
          have hI : (s1 : Int) - (nd : Int) = (s2 : Int) := by omega
          have HS2 := Lib.hid hs2
          rcases Nat.eq_zero_or_pos k with hk0 | hk0
          · subst hk0
            have t2 : decide ((0 : Int) > 0) = false := by decide
            clear hc hb2 hwk e2 hz hzm hs1 hs2
            go_wp2_with fail
            go_quiet (fail)
            go_wp2_with fail
            go_roundw
            case rel => exact ⟨1, by omega, by rw [HS2.out]; go_num, by go_num, by first | exact hB2.out.1 | exact hB2.out.1.drew | exact below_drewN hB2.out.1 _⟩
            case measure => simp [intOf]; omega
          · obtain ⟨k0, rfl⟩ : ∃ k0, k = k0 + 1 := ⟨k - 1, by omega⟩
            obtain ⟨y, hy⟩ : ∃ y, rs[k0]? = some y := ⟨_, List.getElem?_eq_getElem (by omega)⟩
            obtain ⟨D', nd', cd', f0, f1, f2⟩ := hc k0 y hy
            have hyz : y.1 ≤ z.1 := by
              have hup := HPM.out.2
              obtain ⟨h1, rfl⟩ := List.getElem?_eq_some_iff.mp hy
              obtain ⟨h2, rfl⟩ := List.getElem?_eq_some_iff.mp hz
              exact List.pairwise_iff_getElem.mp hup k0 (k0 + 1) h1 h2 (by omega)
            obtain ⟨kk, hkk⟩ : ∃ q, k0 + 1 = q := ⟨_, rfl⟩
            rw [hkk] at e0 e1 hlt2 d3 d3n hk ⊢
            have t2 : decide ((kk : Int) > 0) = true := decide_eq_true (by omega)
            have t2n : decide (0 < kk) = true := decide_eq_true (by omega)
            have t2i : decide ((0 : Int) < (kk : Int)) = true := decide_eq_true (by omega)
            have t4 : decide (at1 < y.1) = false := decide_eq_false (by omega)
            have hkI : (kk : Int) - 1 = (k0 : Int) := by omega
            have hk0n : k0 < nr := by omega
            have HKK := Lib.hid hkk
            clear hc hb2 hwk e2 hz hzm hs1 hs2 hy f1 f2 hkk hyz hk0
            go_wp2_with fail
            go_quiet (fail)
            go_wp2_with fail
            go_roundw
            case rel => exact ⟨kk + 1, by omega, by rw [← HKK.out, HS2.out]; go_num, by go_num, by first | exact hB2.out.1 | exact hB2.out.1.drew | exact below_drewN hB2.out.1 _⟩
            case measure => simp [intOf]; omega
        · have d3 : decide ((k : Int) < (nr : Int)) = false := decide_eq_false (by omega)
          have d3n : decide (k < nr) = false := decide_eq_false hlt2
          obtain rfl : k = nr := by omega
          have h0 : lensL (rs.drop k) = 0 := by rw [List.drop_eq_nil_of_le (by omega)]; rfl
          rw [h0]
          have t5 : decide ((k : Int) ≤ 2 * (i : Int)) = true := decide_eq_true (by omega)
          clear hb2 hwk h0
          go_wp2_with fail
          go_ret
          exact ⟨retb (by first | rfl | (symm; simp; omega)), hB2.out.2⟩
theorem pieces22_any (t : Int) (A : Option Addr) (n c : Nat) (req : List Int) (L : Option Addr) (nl cl : Nat) (l : List ActP) (w : World) (hT : LimT w) (hN : NamesT w) (hS : SlI w w.heap.size .u8 A n c req) (h8 : Byte8 req) (hA : ActsI w L nl cl l) (hok : ActsOk l) :
    Calls Tryd.prog 5 #[.int .i64 t, .slice A n c, .slice L nl cl] w fun e w' => e = .returned (.bool true) ∧ Below w.heap.size w w' := by
  have HAL := Lib.hid (alive22_any w hT hN)
  have HW := Lib.hid (fun (V : World) (h : Below w.heap.size w V) => And.intro (hN.up h) (hA.up h))
  have HOK := Lib.hid hok
  by_cases h300 : 300 < n
  · have d1 : decide ((n : Int) > 300) = true := decide_eq_true (by omega)
    have d1n : decide (300 < n) = true := decide_eq_true h300
    clear hT hN hS hA hok
    go_in
    go_wp2_with fail
    refine HAL.out.mono ?_
    rintro e w1 ⟨rfl, b1⟩
    go_wp2_with fail
    go_ret
    exact ⟨rfl, b1⟩
  have d1 : decide ((n : Int) > 300) = false := decide_eq_false (by omega)
  have d1n : decide (300 < n) = false := decide_eq_false h300
  have hnlm : nl ≤ maxLen := Nat.le_trans hA.2.1 hA.2.2.1
  have hll := hA.1
  have HGR := Lib.hid (fun (V : World) (h : Below w.heap.size w V) => great22_any L nl cl l V (hA.up h))
  have HAR := Lib.hid (fun h V => play_arg t A n c L nl cl V h)
  have HBU := Lib.hid (fun (V : World) (h : Below w.heap.size w V) h20 ht hm => play_bus t A n c L nl cl l V (hN.up h) (hA.up h) hok h20 ht hm)
  cases hg : greatB l with
  | true =>
    rw [hg] at HGR
    clear hT hN hS hA hok
    go_in
    go_wp2_with fail
    refine HAL.out.mono ?_
    rintro e w1 ⟨rfl, b1⟩
    have HB1 := Lib.hid b1
    clear b1
    go_wp2_with fail
    refine (HGR.out w1 HB1.out).mono ?_
    rintro e w2 ⟨rfl, rfl⟩
    rw [show (if True then (1 : Int) else 0) = 1 from if_pos trivial]
    go_wp2_with fail
    go_ret
    exact ⟨rfl, HB1.out⟩
  | false =>
    have h20 : nl ≤ 20 := by
      have h := hg
      unfold greatB at h
      rcases Nat.lt_or_ge 20 l.length with h1 | h1
      · rw [decide_eq_false (by omega)] at h; cases h
      · omega
    rw [hg] at HGR
    simp only [Bool.false_eq_true, if_false] at HGR
    by_cases ht : 0 ≤ t ∧ t ≤ 2305843009213693952
    · cases hm : l.all mayA with
      | true => exact pieces22_good t A n c req L nl cl l w hT hN hS h8 hA hok (by omega) h20 ht hm HGR
      | false =>
        have HP := Lib.hid (fun (V : World) (h : Below w.heap.size w V) => HBU.out V h (by omega) ht hm)
        clear hT hN hS hA hok
        go_in
        go_wp2_with fail
        refine HAL.out.mono ?_
        rintro e w1 ⟨rfl, b1⟩
        have HB1 := Lib.hid b1
        clear b1
        go_wp2_with fail
        refine (HGR.out w1 HB1.out).mono ?_
        rintro e w2 ⟨rfl, rfl⟩
        go_wp2_with fail
        refine (HP.out w1 HB1.out).mono ?_
        rintro e w3 ⟨rfl, b3⟩
        have HB3 := Lib.hid (HB1.out.trans (b3.mono HB1.out.size))
        clear b3
        go_wp2_with fail
        go_ret
        exact ⟨rfl, HB3.out⟩
    · have HP := Lib.hid (fun (V : World) => HAR.out (by omega) V)
      clear hT hN hS hA hok
      go_in
      go_wp2_with fail
      refine HAL.out.mono ?_
      rintro e w1 ⟨rfl, b1⟩
      have HB1 := Lib.hid b1
      clear b1
      go_wp2_with fail
      refine (HGR.out w1 HB1.out).mono ?_
      rintro e w2 ⟨rfl, rfl⟩
      go_wp2_with fail
      refine (HP.out w1).mono ?_
      rintro e w3 ⟨rfl, b3⟩
      have HB3 := Lib.hid (HB1.out.trans (b3.mono HB1.out.size))
      clear b3
      go_wp2_with fail
      go_ret
      exact ⟨rfl, HB3.out⟩
end Go.Proofs.YtcipleanckeoaaaDoor
