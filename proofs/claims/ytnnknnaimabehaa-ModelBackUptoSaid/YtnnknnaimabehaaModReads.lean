/- The blocks of registers, and where one stands, are the document's: the law, walked. -/
import Derived.Test.YtnnknnaimabehaaModRefRead
import Derived.Test.YtnnknnaimabehaaModRefFind
import Derived.Test.YtnnknnaimabehaaModRefSame
namespace Go.Proofs.Ytnnknnaimabehaa
open Go.RowKit
set_option linter.unusedVariables false
set_option maxRecDepth 100000
def SomeB (e : Ending) : Prop := ∃ b, e = .returned (.bool b)
set_option maxHeartbeats 1000000 in
theorem greatd_bool (A : Option Addr) (n c : Nat) (ds : List DefP) (w : World) (hD : DfI w w.heap.size A n c ds) :
    Calls Try.prog 20 #[.slice A n c] w fun e w' => SomeB e ∧ w = w' := by
  have hl := hD.1
  have hm : n ≤ maxLen := Nat.le_trans hD.2.1 hD.2.2.1
  unfold maxLen at hm
  have HD := Lib.hid hD
  have HL := Lib.hid hl
  clear hD hl
  go_in
  go_wp2
  go_loop [3, 4] (fun s3 s4 => ∃ (j : Nat) (z : Int), j ≤ n ∧ s3 = .int .i64 z ∧ s4 = .int .i64 j) (fun _ s4 => n - (intOf s4).toNat)
  case atStart => exact ⟨0, 0, Nat.zero_le _, rfl, rfl⟩
  case round =>
    obtain ⟨j, z, hj, rfl, rfl⟩ := hrel
    by_cases hlt : j < n
    · obtain ⟨⟨id, ps⟩, hd⟩ : ∃ d, ds[j]? = some d := ⟨_, List.getElem?_eq_getElem (by rw [HL.out]; exact hlt)⟩
      obtain ⟨g, off, rfl, hg, hc⟩ := HD.out.2.2.2.2 (by omega)
      obtain ⟨Ap, np, cp, c0, c1, hP⟩ := hc j _ hd
      dsimp only at c0 hP
      have hltI : (j : Int) < (n : Int) := by omega
      clear hc hP hd
      go_wp2
      go_round
      case rel => exact ⟨j + 1, _, by omega, rfl, by go_num⟩
      case measure => simp [intOf]; omega
    · obtain rfl : j = n := by omega
      go_wp2
      go_ret
      exact ⟨⟨_, rfl⟩, rfl⟩
/-- Two readings' blocks, as one list. -/
theorem rd_both {w1 w2 : World} {o : Option (List BlkP)} {A1 A2 : Option Addr} {n1 n2 c1 c2 : Nat} (h1 : ∀ l, o = some l → BkI w1 w1.heap.size A1 n1 c1 l) (k1 : o = none → A1 = none ∧ n1 = 0 ∧ c1 = 0) (hb : Below w1.heap.size w1 w2) (h2 : ∀ l, o = some l → BkI w2 w2.heap.size A2 n2 c2 l) (k2 : o = none → A2 = none ∧ n2 = 0 ∧ c2 = 0) :
    ∃ X, BkI w2 w2.heap.size A1 n1 c1 X ∧ BkI w2 w2.heap.size A2 n2 c2 X := by
  cases o with
  | none =>
    obtain ⟨rfl, rfl, rfl⟩ := k1 rfl
    obtain ⟨rfl, rfl, rfl⟩ := k2 rfl
    have hn : BkI w2 w2.heap.size none 0 0 [] := ⟨rfl, by omega, by simp [maxLen], fun _ => ⟨rfl, rfl⟩, fun h => absurd h (by omega)⟩
    exact ⟨[], hn, hn⟩
  | some X => exact ⟨X, (h1 X rfl).up hb, h2 X rfl⟩
set_option maxHeartbeats 2000000 in
theorem law_reads (A : Option Addr) (n c : Nat) (l : List Int) (A' : Option Addr) (n' c' : Nat) (ds : List DefP) (id nth : Int) (hid : nth ≤ 9223372036854775807) (w : World) (hS : SlI w w.heap.size .u16 A n c l) (hx : ∀ x ∈ l, 0 ≤ x ∧ x < 65536) (hD : DfI w w.heap.size A' n' c' ds) :
    Calls Try.prog 6 #[.slice A n c, .slice A' n' c', .int .i64 id, .int .i64 nth] w fun e w' => e = .returned (.bool true) ∧ Below w.heap.size w w' := by
  by_cases h2 : n > 2000
  · have t1 : (n : Int) > 2000 := by omega
    go_in
    go_wp2
    go_ret
    exact ⟨rfl, Below.refl _ _⟩
  have t1 : ¬ (n : Int) > 2000 := by omega
  have hl := hS.1
  have HS := Lib.hid (fun (X : World) (h : Below w.heap.size w X) => hS.up h)
  have HD := Lib.hid (fun (X : World) (h : Below w.heap.size w X) => hD.up h)
  have HG := Lib.hid (greatd_bool A' n' c' ds w hD)
  have HX := Lib.hid hx
  have HR1 := Lib.hid (read_own A n c l A' n' c' ds w hS hx (by omega) hD)
  have HR2 := Lib.hid (fun (X : World) (h : Below w.heap.size w X) => rread_any A n c l A' n' c' ds X (hS.up h) hx (by omega) (hD.up h))
  obtain ⟨o, ho⟩ : ∃ o, readP ds l = o := ⟨_, rfl⟩
  rw [ho] at HR1
  simp only [ho] at HR2
  clear hS hD hx ho hl
  go_in
  go_wp2_with fail
  refine HG.out.mono ?_
  rintro e w' ⟨⟨b, rfl⟩, rfl⟩
  cases b with
  | true =>
    go_wp2_with fail
    go_ret
    exact ⟨rfl, Below.refl _ _⟩
  | false =>
  go_wp2_with fail
  refine HR1.out.mono ?_
  rintro e w1 ⟨A1, n1, c1, er1, rfl, her1, hb1, hk1, hbel1⟩
  have HE1 := Lib.hid her1
  have HB1 := Lib.hid (And.intro hb1 hk1)
  clear her1 hb1 hk1
  go_wp2_with fail
  refine (HR2.out w1 hbel1).mono ?_
  rintro e w2 ⟨A2, n2, c2, er2, rfl, her2, hb2, hk2, hbel2⟩
  obtain ⟨X, hX1, hX2⟩ := rd_both HB1.out.1 HB1.out.2 hbel2 hb2 hk2
  rw [← HE1.out] at her2
  subst her2
  have hb2w := hbel1.trans (hbel2.mono hbel1.size)
  have HF1 := Lib.hid (find_own A n c l id nth (by omega) hid w2 (HS.out w2 hb2w) HX.out)
  have HF2 := Lib.hid (rfind_any A n c l id nth (by omega) hid w2 (HS.out w2 hb2w) HX.out)
  obtain ⟨r, hr⟩ : ∃ r, findR l id nth = r := ⟨_, rfl⟩
  obtain ⟨r1, r2, r3⟩ := r
  rw [hr] at HF1 HF2
  dsimp only at HF1 HF2
  have HSM := Lib.hid (rsame_any A1 A2 n1 n2 c1 c2 X X w2 hX1 hX2)
  rw [decide_eq_true rfl] at HSM
  clear hb2 hk2 hX1 hX2 hr HB1 HE1
  go_wp2_with fail
  refine HF1.out.mono ?_
  rintro e w' ⟨rfl, rfl⟩
  go_wp2_with fail
  refine HF2.out.mono ?_
  rintro e w' ⟨rfl, rfl⟩
  go_wp2_with fail
  refine HSM.out.mono ?_
  rintro e w3 ⟨rfl, hb3⟩
  have q1 : (er2 == er2) = true := by simp
  have q2 : (r1 == r1) = true := by simp
  have q3 : (r2 == r2) = true := by simp
  have q4 : (r3 == r3) = true := by simp
  go_wp2_with fail
  go_ret
  exact ⟨rfl, hb2w.trans (hb3.mono hb2w.size)⟩
end Go.Proofs.Ytnnknnaimabehaa
