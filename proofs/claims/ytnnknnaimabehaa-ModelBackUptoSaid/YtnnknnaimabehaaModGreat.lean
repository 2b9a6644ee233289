/- kilowattref26.Great: are blocks more than statements go through? -/
import Derived.Test.YtnnknnaimabehaaModJoinP
namespace Go.Proofs.Ytnnknnaimabehaa
open Go.RowKit
set_option linter.unusedVariables false
set_option maxRecDepth 100000
def strN (vs : List ValP) : Nat := (vs.map fun v => v.s.size).sum
def partN (b : BlkP) : Nat := 2 + b.pts.length + b.vals.length + strN b.vals
def partsN (bs : List BlkP) : Nat := (bs.map partN).sum
theorem strN_next (vs : List ValP) (j : Nat) (v : ValP) (h : vs[j]? = some v) : strN (vs.take (j + 1)) = strN (vs.take j) + v.s.size := by
  obtain ⟨hj, rfl⟩ := List.getElem?_eq_some_iff.1 h
  rw [List.take_succ_eq_append_getElem hj]
  simp only [strN, List.map_append, List.sum_append, List.map_cons, List.map_nil, List.sum_cons, List.sum_nil, Nat.add_zero]
theorem partsN_next (bs : List BlkP) (j : Nat) (b : BlkP) (h : bs[j]? = some b) : partsN (bs.take (j + 1)) = partsN (bs.take j) + partN b := by
  obtain ⟨hj, rfl⟩ := List.getElem?_eq_some_iff.1 h
  rw [List.take_succ_eq_append_getElem hj]
  simp only [partsN, List.map_append, List.sum_append, List.map_cons, List.map_nil, List.sum_cons, List.sum_nil, Nat.add_zero]
theorem strN_take (vs : List ValP) (j : Nat) : strN (vs.take j) ≤ strN vs := by
  conv => rhs; rw [← List.take_append_drop j vs]
  simp only [strN, List.map_append, List.sum_append]
  omega
theorem partsN_take (bs : List BlkP) (j : Nat) : partsN (bs.take j) ≤ partsN bs := by
  conv => rhs; rw [← List.take_append_drop j bs]
  simp only [partsN, List.map_append, List.sum_append]
  omega
theorem partsN_len (bs : List BlkP) : 2 * bs.length ≤ partsN bs := by
  induction bs with
  | nil => simp
  | cons b r ih =>
    have h : partsN (b :: r) = partN b + partsN r := by simp only [partsN, List.map_cons, List.sum_cons]
    have h2 : 2 ≤ partN b := by unfold partN; omega
    rw [h, List.length_cons]
    omega
set_option maxHeartbeats 2000000 in
theorem mgreat_any (A : Option Addr) (n c : Nat) (bs : List BlkP) (w : World) (hB : BkI w w.heap.size A n c bs) (hs : partsN bs ≤ 1048576) :
    Calls Try.prog 9 #[.slice A n c] w fun e w' => e = .returned (.int .i64 (if 3000 < partsN bs then 1 else 0)) ∧ ∃ m, w' = w.drewN m := by
  obtain ⟨R, hR⟩ : ∃ R : Int, (if 3000 < partsN bs then 1 else 0) = R := ⟨_, rfl⟩
  rw [hR]
  have HR := Lib.hid hR
  clear hR
  have hl := hB.1
  have hn := partsN_len bs
  have HBK := Lib.hid hB
  have HL := Lib.hid hl
  have HT := Lib.hid (fun j => Nat.le_trans (partsN_take bs j) hs)
  have hnb : n ≤ 1048576 := by omega
  clear hB hl hn hs
  go_in
  go_wp2
  go_loopw [3, 4] (fun s3 s4 wx => ∃ (j : Nat), j ≤ n ∧ s3 = .int .i64 (partsN (bs.take j) : Nat) ∧ s4 = .int .i64 j ∧ ∃ m, wx = w.drewN m) (fun _ s4 _ => n - (intOf s4).toNat)
  case atStart => exact ⟨0, Nat.zero_le _, rfl, rfl, 0, rfl⟩
  case round =>
    obtain ⟨j, hj, rfl, rfl, mw, rfl⟩ := hrel
    by_cases hlt : j < n
    · obtain ⟨⟨id, ps, vs⟩, hb⟩ : ∃ b, bs[j]? = some b := ⟨_, List.getElem?_eq_getElem (by rw [HL.out]; exact hlt)⟩
      obtain ⟨g, off, rfl, hg, hc⟩ := HBK.out.2.2.2.2 (by omega)
      obtain ⟨Ap, np, cp, Av, nv, cv, c0, c1, c2, hPt, hVl, hvi⟩ := hc j _ hb
      have hp := hPt.1
      have hv := hVl.1
      dsimp only at hPt hVl hp hv c0
      have HN := Lib.hid (partsN_next bs j _ hb)
      have h1 := HT.out (j + 1)
      rw [HN.out] at h1
      have h2 : partN ⟨id, ps, vs⟩ = 2 + np + nv + strN vs := by unfold partN; dsimp only; rw [hp, hv]
      rw [h2] at h1
      have HP := Lib.hid h2
      obtain ⟨T, hT⟩ : ∃ T, partsN (bs.take j) = T := ⟨_, rfl⟩
      rw [hT] at h1 ⊢
      have HTT := Lib.hid hT
      have HV := Lib.hid hVl
      have HVN := Lib.hid hv
      have HS := Lib.hid (fun q => Nat.le_trans (strN_take vs q) (show strN vs ≤ 1048576 by omega))
      clear hc hPt hVl hvi hp hb h2 hT hv
      have w1 : IntKind.i64.wrap ((T : Int) + 2) = (T : Int) + 2 := IntWalk.i64_in _ (by omega)
      have w2 : IntKind.i64.wrap ((T : Int) + 2 + (np : Int)) = (T : Int) + 2 + (np : Int) := IntWalk.i64_in _ (by omega)
      have w3 : IntKind.i64.wrap ((T : Int) + 2 + (np : Int) + (nv : Int)) = (T : Int) + 2 + (np : Int) + (nv : Int) := IntWalk.i64_in _ (by omega)
      go_upto_region 5 with (fail)
      go_quiet (fail)
      rw [World.drewN_drewN]
      obtain ⟨mq, hmq⟩ : ∃ q, mw + nq = q := ⟨_, rfl⟩
      rw [hmq]
      clear hmq
      go_wp2
      go_loopw [3, 5] (fun s3 s5 wx => ∃ (q : Nat), q ≤ nv ∧ s3 = .int .i64 ((T + 2 + np + nv + strN (vs.take q) : Nat) : Int) ∧ s5 = .int .i64 q ∧ wx = w.drewN mq) (fun _ s5 _ => nv - (intOf s5).toNat)
      case atStart => exact ⟨0, Nat.zero_le _, by simp [strN], rfl, rfl⟩
      case round =>
        obtain ⟨q, hq, rfl, rfl, rfl⟩ := hrel
        by_cases hqt : q < nv
        · obtain ⟨⟨u, i, s⟩, hvq⟩ : ∃ v, vs[q]? = some v := ⟨_, List.getElem?_eq_getElem (by rw [HVN.out]; exact hqt)⟩
          obtain ⟨g2, off2, rfl, hg2, hc2⟩ := HV.out.2.2.2.2 (by omega)
          obtain ⟨d0, d1, d2⟩ := hc2 q _ hvq
          have HSN := Lib.hid (strN_next vs q _ hvq)
          have k1 := HS.out (q + 1)
          rw [HSN.out] at k1
          obtain ⟨Q, hQ⟩ : ∃ Q, strN (vs.take q) = Q := ⟨_, rfl⟩
          rw [hQ] at k1 ⊢
          have HQ := Lib.hid hQ
          dsimp only at d2 k1
          clear hc2 hvq hQ
          go_wp2
          go_roundw
          case rel => exact ⟨q + 1, by omega, by rw [HSN.out, HQ.out]; go_num, by go_num, by first | rfl | trivial⟩
          case measure => simp [intOf]; omega
        · obtain rfl : q = nv := by omega
          have ht : vs.take q = vs := List.take_of_length_le (by rw [HVN.out]; exact Nat.le_refl _)
          rw [ht]
          go_wp2
          go_roundw
          case rel => exact ⟨j + 1, by omega, by rw [HN.out, HTT.out, HP.out]; go_num, by go_num, mq, rfl⟩
          case measure => simp [intOf]; omega
    · obtain rfl : j = n := by omega
      have ht : bs.take j = bs := List.take_of_length_le (by rw [HL.out]; exact Nat.le_refl _)
      have h1 := HT.out j
      rw [ht] at h1 ⊢
      obtain ⟨T, hT⟩ : ∃ T, partsN bs = T := ⟨_, rfl⟩
      have hr := HR.out
      rw [hT] at h1 hr ⊢
      clear ht hT
      by_cases h3 : 3000 < T
      · have h4 : (T : Int) > 3000 := by omega
        rw [if_pos h3] at hr
        subst hr
        go_wp2
        go_ret
        exact ⟨rfl, mw, rfl⟩
      · have h4 : ¬ (T : Int) > 3000 := by omega
        rw [if_neg h3] at hr
        subst hr
        go_wp2
        go_ret
        exact ⟨rfl, mw, rfl⟩
end Go.Proofs.Ytnnknnaimabehaa
