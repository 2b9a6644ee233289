/- The law BusPieces: what comes of acts, and its walk. -/
import Derived.BigQuiet
import Derived.Test.YtcipleanckeoaaaDoorYBusPlay
import Derived.Test.YtcipleanckeoaaaDoorYPduFrom
import Derived.Test.YtcipleanckeoaaaDoorYBusPlayP
import Derived.Test.YtcipleanckeoaaaDoorYPduBytes
import Derived.Laws.BitsAllLaws
import Derived.Test.YtcipleanckeoaaaDoorYPduBase
set_option maxRecDepth 100000
set_option maxHeartbeats 40000000
namespace Go.Proofs.YtcipleanckeoaaaDoor
open Go.RowKit
attribute [local go_sem] Oper.semAt_some
set_option linter.unusedVariables false
set_option linter.unusedSimpArgs false
theorem rtuB_le (u : Int) (b : List Int) : ((rtuB u b).getD []).length ≤ 256 := by
 unfold rtuB
 split
 ·rename_i h
  rw [Option.getD_some, rtuL_len]
  omega
 ·simp
theorem rightP_le (req regs : List Int) (unit : Int) : (rightP req regs unit).length ≤ 256 := by
 unfold rightP
 split
 ·simp
 ·split
  ·simp
  ·split
   ·simp
   ·split
    ·simp
    ·exact rtuB_le _ _
theorem bytesA_le (req : List Int) (a : ActP) : (bytesA req a).length ≤ 300 := by
 unfold bytesA
 split
 ·simp
 ·rename_i hm
  have hm : mayA a = true := by simpa using hm
  have hq : mayQ a := of_decide_eq_true hm
  split
  ·exact hq.2.2.2.2.1
  ·split
   ·simp
   ·split
    ·exact Nat.le_trans (rightP_le _ _ _) (by omega)
    ·split
     ·split
      ·simp
      ·split
       ·simp
       ·exact Nat.le_trans (rtuB_le _ _) (by omega)
     ·split
      ·rw [List.length_take]
       have := rightP_le req a.regs (-1)
       omega
      ·split
       ·unfold spoilL
        rw [List.length_set]
        exact Nat.le_trans (rightP_le _ _ _) (by omega)
       ·exact Nat.le_trans (rightP_le _ _ _) (by omega)
def okA (a : ActP) : Bool := decide (a.regs.length ≤ 200) && decide (a.data.length ≤ 400)
def greatB (l : List ActP) : Bool := !(decide (l.length ≤ 20) && l.all okA)
theorem great_yes {l : List ActP} (h : 20 < l.length ∨ ∃ a ∈ l, okA a = false) : greatB l = true := by
 unfold greatB
 rcases h with h | ⟨a, ha, h⟩
 ·rw [decide_eq_false (by omega)]; rfl
 ·have : l.all okA = false := by
   cases hb : l.all okA with
   | false => rfl
   | true => rw [List.all_eq_true.mp hb a ha] at h; cases h
  rw [this, Bool.and_false]; rfl
theorem great22_any (A : Option Addr) (n c : Nat) (l : List ActP) (w : World) (hA : ActsI w A n c l) :
  Calls Tryd.prog 10 #[.slice A n c] w fun e w' => e = .returned (.int .i64 (if greatB l then 1 else 0)) ∧ w = w' := by
 have hl := hA.1
 have hnm : n ≤ maxLen := Nat.le_trans hA.2.1 hA.2.2.1
 unfold maxLen at hnm
 have HA := Lib.hid hA
 have HY := Lib.hid (fun h => great_yes (l := l) h)
 have HNO := Lib.hid (show l.length ≤ 20 → l.all okA = true → greatB l = false from fun h1 h2 => by unfold greatB; rw [decide_eq_true h1, h2]; rfl)
 obtain ⟨G, hG⟩ : ∃ q, greatB l = q := ⟨_, rfl⟩
 rw [hG] at HY HNO ⊢
 clear hA hG
 by_cases h20 : 20 < n
 ·have d1 : decide ((n : Int) > 20) = true := decide_eq_true (by omega)
  have d1n : decide (20 < n) = true := decide_eq_true h20
  have d1i : decide ((20 : Int) < (n : Int)) = true := decide_eq_true (by omega)
  obtain rfl : G = true := HY.out (.inl (by omega))
  go_in
  go_wp2_with fail
  go_ret
  exact ⟨rfl, rfl⟩
 ·have d1 : decide ((n : Int) > 20) = false := decide_eq_false (by omega)
  have d1n : decide (20 < n) = false := decide_eq_false h20
  have d1i : decide ((20 : Int) < (n : Int)) = false := decide_eq_false (by omega)
  go_in
  go_wp2_with fail
  go_loopw [3] (fun u wr => ∃ i : Nat, i ≤ n ∧ u = .int .i64 i ∧ (l.take i).all okA = true ∧ wr = w) (fun u _ => n - (intOf u).toNat)
  case atStart => exact ⟨0, by omega, rfl, rfl, rfl⟩
  case round =>
   obtain ⟨i, hi, rfl, hall, rfl⟩ := hrel
   have HALL := Lib.hid hall
   clear hall
   by_cases hlt : i < n
   ·have d2 : decide ((i : Int) < (n : Int)) = true := decide_eq_true (by omega)
    have d2n : decide (i < n) = true := decide_eq_true hlt
    obtain ⟨a, ha⟩ : ∃ a, l[i]? = some a := ⟨_, List.getElem?_eq_getElem (by omega)⟩
    obtain ⟨g, off, rfl, hg, hc⟩ := HA.out.2.2.2.2 (by omega)
    obtain ⟨Ar, nr, cr, D, nd, cd, k1, k2, k3⟩ := hc i a ha
    obtain ⟨c0, c1, c2, c3, c4, c5, c6, c7, c8⟩ := act_cells k1
    have hr1 : a.regs.length = nr := k2.1
    have hd1 : a.data.length = nd := k3.1
    have HAM := Lib.hid (List.mem_of_getElem? ha)
    have HTK := Lib.hid (all_take l i a ha okA)
    have HOA := Lib.hid (show okA a = (decide (nr ≤ 200) && decide (nd ≤ 400)) by unfold okA; rw [hr1, hd1])
    clear hc ha k1 k2 k3 c0 c1 c2 c4 c5 c6 c7 hr1 hd1
    by_cases hr : 200 < nr
    ·have d3 : decide ((nr : Int) > 200) = true := decide_eq_true (by omega)
     have d3n : decide (200 < nr) = true := decide_eq_true hr
     obtain rfl : G = true := HY.out (.inr ⟨a, HAM.out, by rw [HOA.out, decide_eq_false (by omega)]; rfl⟩)
     go_wp2_with fail
     go_ret
     exact ⟨rfl, rfl⟩
    ·have d3 : decide ((nr : Int) > 200) = false := decide_eq_false (by omega)
     have d3n : decide (200 < nr) = false := decide_eq_false hr
     by_cases hd : 400 < nd
     ·have d4 : decide ((nd : Int) > 400) = true := decide_eq_true (by omega)
      have d4n : decide (400 < nd) = true := decide_eq_true hd
      obtain rfl : G = true := HY.out (.inr ⟨a, HAM.out, by rw [HOA.out, decide_eq_false (show ¬ nd ≤ 400 by omega), Bool.and_false]⟩)
      go_wp2_with fail
      go_ret
      exact ⟨rfl, rfl⟩
     ·have d4 : decide ((nd : Int) > 400) = false := decide_eq_false (by omega)
      have d4n : decide (400 < nd) = false := decide_eq_false hd
      have HNX := Lib.hid (show (l.take (i + 1)).all okA = true by rw [HTK.out, HALL.out, HOA.out, decide_eq_true (show nr ≤ 200 by omega), decide_eq_true (show nd ≤ 400 by omega)]; rfl)
      go_wp2_with fail
      go_roundw
      case rel => exact ⟨i + 1, by omega, by go_num, HNX.out, by first | rfl | trivial⟩
      case measure => simp [intOf]; omega
   ·have d2 : decide ((i : Int) < (n : Int)) = false := decide_eq_false (by omega)
    have d2n : decide (i < n) = false := decide_eq_false hlt
    obtain rfl : i = n := by omega
    have hz : l.take i = l := List.take_of_length_le (by omega)
    obtain rfl : G = false := HNO.out (by omega) (by have := HALL.out; rwa [hz] at this)
    clear hz
    go_wp2_with fail
    go_ret
    exact ⟨rfl, rfl⟩
theorem play_arg (t : Int) (A : Option Addr) (n c : Nat) (L : Option Addr) (nl cl : Nat) (w : World) (ht : t < 0 ∨ 2305843009213693952 < t) :
  Calls Tryd.prog 13 #[.int .i64 t, .slice A n c, .slice L nl cl] w fun e w' => e = .returned (.tuple #[.slice none 0 0, .int .i64 2]) ∧ Below w.heap.size w w' := by
 by_cases h0 : t < 0
 ·have d1 : decide (t < 0) = true := decide_eq_true h0
  go_in
  go_wp2_with fail
  go_ret2
  exact ⟨rfl, Below.refl _ _⟩
 ·have d1 : decide (t < 0) = false := decide_eq_false h0
  have d2 : decide (2305843009213693952 < t) = true := decide_eq_true (by omega)
  go_in
  go_wp2_with fail
  go_ret2
  exact ⟨rfl, Below.refl _ _⟩
end Go.Proofs.YtcipleanckeoaaaDoor
