/- model.Find. -/
import Derived.Test.YtnnknnaimabehaaDoorModImg2
import Derived.OwnWalk
namespace Go.Proofs.YtnnknnaimabehaaDoor
open Go.RowKit
set_option linter.unusedVariables false
set_option maxRecDepth 100000
/-- Where a block's points begin, from a place on. -/
def findP (l : List Int) (id : Int) : Nat → Nat → Int → Int × Int × Bool
  | 0, _, _ => (0, 0, false)
  | f + 1, p, nth =>
    if p + 2 ≤ l.length ∧ l.getD p 0 ≠ 65535 then
      if (l.length : Int) < p + 2 + l.getD (p + 1) 0 then (0, 0, false)
      else if l.getD p 0 ≠ id then findP l id f (p + 2 + (l.getD (p + 1) 0).toNat) nth
      else if nth = 0 then (p + 2, l.getD (p + 1) 0, true)
      else findP l id f (p + 2 + (l.getD (p + 1) 0).toNat) (nth - 1)
    else (0, 0, false)
def findR (l : List Int) (id nth : Int) : Int × Int × Bool :=
  if l.length < 2 ∨ l.getD 0 0 ≠ 21365 ∨ l.getD 1 0 ≠ 28243 ∨ nth < 0 then (0, 0, false) else findP l id (l.length + 1) 2 nth
set_option maxHeartbeats 2000000 in
theorem find_own (A : Option Addr) (n c : Nat) (l : List Int) (id nth : Int) (hn : n ≤ 10000000) (hid : nth ≤ 9223372036854775807) (w : World) (hB : SlI w w.heap.size .u16 A n c l) (h16 : ∀ x ∈ l, 0 ≤ x ∧ x < 65536) :
    Calls Tryd.prog 8 #[.slice A n c, .int .i64 id, .int .i64 nth] w fun e w' => e = .returned (.tuple #[.int .i64 (findR l id nth).1, .int .i64 (findR l id nth).2.1, .bool (findR l id nth).2.2]) ∧ w = w' := by
  have hl := hB.1
  obtain ⟨R, hR⟩ : ∃ r, findR l id nth = r := ⟨_, rfl⟩
  obtain ⟨r1, r2, r3⟩ := R
  rw [hR]
  have HR := Lib.hid hR
  clear hR
  have HL := Lib.hid hl
  have H16 := Lib.hid h16
  have hrd := hB.2.2.2.2
  have HRD := Lib.hid hrd
  clear hB hl h16 hrd
  by_cases h2 : n < 2
  · have hr : findR l id nth = (0, 0, false) := by unfold findR; rw [if_pos (Or.inl (by rw [HL.out]; omega))]
    have hr2 := HR.out.symm.trans hr
    injection hr2 with e1 e2
    injection e2 with e2 e3
    subst e1 e2 e3
    have t2 : (n : Int) < 2 := by omega
    clear hr
    go_in
    go_wp2
    refine bodyPost_ret (results_tmp3 rfl _ _ _) rfl ?_
    exact ⟨rfl, rfl⟩
  · obtain ⟨g, off, x0, rfl, _, hx0, hc0⟩ := HRD.out.at_ (i := 0) (by rw [HL.out]; omega)
    obtain ⟨g', off', x1, he, _, hx1, hc1⟩ := HRD.out.at_ (i := 1) (by rw [HL.out]; omega)
    injection he with he
    injection he with he1 he2
    subst he1 he2
    rw [Nat.add_zero] at hc0
    have t2 : ¬ (n : Int) < 2 := by omega
    have i0 : (0 : Int) < (n : Int) := by omega
    have i1 : (1 : Int) < (n : Int) := by omega
    have j0 : 0 < n := by omega
    have j1 : 1 < n := by omega
    have g0 : l.getD 0 0 = x0 := by simp [List.getD, hx0]
    have g1 : l.getD 1 0 = x1 := by simp [List.getD, hx1]
    have HG0 := Lib.hid g0
    have HG1 := Lib.hid g1
    clear hx0 hx1 g0 g1
    by_cases hok : x0 = 21365 ∧ x1 = 28243 ∧ 0 ≤ nth
    · obtain ⟨rfl, rfl, hnth⟩ := hok
      have hr : findP l id (l.length + 1) 2 nth = (r1, r2, r3) := by rw [← HR.out]; unfold findR; rw [if_neg (by rw [HG0.out, HG1.out, HL.out]; omega)]
      have HF := Lib.hid hr
      have b3 : decide (nth < 0) = false := decide_eq_false (by omega)
      have b4 : ¬ nth < 0 := by omega
      clear hr
      go_in
      go_wp2
      go_loop [2, 9] (fun s2 s9 => ∃ (f p : Nat) (k : Int), s2 = .int .i64 k ∧ s9 = .int .i64 p ∧ 0 ≤ k ∧ k ≤ nth ∧ findP l id f p k = (r1, r2, r3) ∧ l.length + 1 ≤ f + p ∧ p ≤ n) (fun _ s9 => n - (intOf s9).toNat)
      case atStart => exact ⟨l.length + 1, 2, nth, rfl, rfl, hnth, Int.le_refl _, HF.out, by omega, by omega⟩
      case round =>
        obtain ⟨f, p, k, rfl, rfl, hk, hkn, hf, hfp, hpn⟩ := hrel
        rw [HL.out] at hfp
        obtain ⟨f', rfl⟩ : ∃ f', f = f' + 1 := ⟨f - 1, by omega⟩
        have hu : findP l id (f' + 1) p k = if p + 2 ≤ l.length ∧ l.getD p 0 ≠ 65535 then
            (if (l.length : Int) < p + 2 + l.getD (p + 1) 0 then (0, 0, false)
            else if l.getD p 0 ≠ id then findP l id f' (p + 2 + (l.getD (p + 1) 0).toNat) k
            else if k = 0 then (p + 2, l.getD (p + 1) 0, true)
            else findP l id f' (p + 2 + (l.getD (p + 1) 0).toNat) (k - 1)) else (0, 0, false) := rfl
        rw [hu, HL.out] at hf
        clear hu
        have w2 : IntKind.i64.wrap ((p : Int) + 2) = (p : Int) + 2 := IntWalk.i64_in _ (by omega)
        have w1 : IntKind.i64.wrap ((p : Int) + 1) = (p : Int) + 1 := IntWalk.i64_in _ (by omega)
        by_cases hp2 : p + 2 ≤ n
        · obtain ⟨g2, o2, y, he, _, hy, hcy⟩ := HRD.out.at_ (i := p) (by rw [HL.out]; omega)
          injection he with he
          injection he with he1 he2
          subst he1 he2
          obtain ⟨g2, o2, z, he, _, hz, hcz⟩ := HRD.out.at_ (i := p + 1) (by rw [HL.out]; omega)
          injection he with he
          injection he with he1 he2
          subst he1 he2
          have gy : l.getD p 0 = y := by simp [List.getD, hy]
          have gz : l.getD (p + 1) 0 = z := by simp [List.getD, hz]
          rw [gy, gz] at hf
          have hz16 := H16.out z (List.mem_of_getElem? hz)
          have hy16 := H16.out y (List.mem_of_getElem? hy)
          have HFU := Lib.hid hf
          have u1 : (p : Int) + 2 ≤ (n : Int) := by omega
          have u2 : (p : Int) < (n : Int) := by omega
          have u3 : (p : Int) + 1 < (n : Int) := by omega
          have u4 : p < n := by omega
          have u5 : p + 1 < n := by omega
          have u6 : decide ((p : Int) + 2 ≤ (n : Int)) = true := decide_eq_true u1
          have wy : IntKind.i64.wrap y = y := IntWalk.i64_in _ (by omega)
          have wz : IntKind.i64.wrap z = z := IntWalk.i64_in _ (by omega)
          have wa : IntKind.i64.wrap ((p : Int) + 2 + z) = (p : Int) + 2 + z := IntWalk.i64_in _ (by omega)
          have wb : IntKind.i64.wrap (2 + z) = 2 + z := IntWalk.i64_in _ (by omega)
          have wc : IntKind.i64.wrap ((p : Int) + (2 + z)) = (p : Int) + (2 + z) := IntWalk.i64_in _ (by omega)
          have wk : IntKind.i64.wrap (k - 1) = k - 1 := IntWalk.i64_in _ (by omega)
          clear gy gz hy hz hf
          have hzn : ((p + 2 + z.toNat : Nat) : Int) = (p : Int) + (2 + z) := by omega
          have HZN := Lib.hid hzn
          clear hzn
          by_cases hy5 : y = 65535
          · have hr : ((0 : Int), (0 : Int), false) = (r1, r2, r3) := by have hf := HFU.out; rw [if_neg (fun h => h.2 hy5)] at hf; exact hf
            injection hr with e1 e2
            injection e2 with e2 e3
            subst e1 e2 e3
            have t5 : (y != 65535) = false := by simpa using hy5
            clear hy5
            go_wp2
            refine bodyPost_ret (results_tmp3 rfl _ _ _) rfl ?_
            exact ⟨rfl, rfl⟩
          · have t5 : (y != 65535) = true := by simpa using hy5
            by_cases hov : (n : Int) < (p : Int) + 2 + z
            · have hr : ((0 : Int), (0 : Int), false) = (r1, r2, r3) := by have hf := HFU.out; rw [if_pos ⟨hp2, hy5⟩, if_pos hov] at hf; exact hf
              injection hr with e1 e2
              injection e2 with e2 e3
              subst e1 e2 e3
              have t6 : (p : Int) + 2 + z > (n : Int) := hov
              clear hy5
              go_wp2
              refine bodyPost_ret (results_tmp3 rfl _ _ _) rfl ?_
              exact ⟨rfl, rfl⟩
            · have t6 : ¬ (p : Int) + 2 + z > (n : Int) := hov
              by_cases hyi : y = id
              · have t7 : (y != id) = false := by simpa using hyi
                by_cases hk0 : k = 0
                · have hr : (((p : Int) + 2), z, true) = (r1, r2, r3) := by have hf := HFU.out; rw [if_pos ⟨hp2, hy5⟩, if_neg hov, if_neg (fun h => h hyi), if_pos hk0] at hf; exact hf
                  injection hr with e1 e2
                  injection e2 with e2 e3
                  subst e1 e2 e3
                  have t8 : (k == 0) = true := by simpa using hk0
                  clear hy5 hyi hk0
                  go_wp2
                  refine bodyPost_ret (results_tmp3 rfl _ _ _) rfl ?_
                  exact ⟨rfl, rfl⟩
                · have hr : findP l id f' (p + 2 + z.toNat) (k - 1) = (r1, r2, r3) := by have hf := HFU.out; rw [if_pos ⟨hp2, hy5⟩, if_neg hov, if_neg (fun h => h hyi), if_neg hk0] at hf; exact hf
                  have HRR := Lib.hid hr
                  have t8 : (k == 0) = false := by simpa using hk0
                  clear hy5 hyi hr
                  go_wp2
                  go_round
                  case rel => exact ⟨f', p + 2 + z.toNat, k - 1, rfl, by rw [HZN.out], by omega, by omega, HRR.out, by rw [HL.out]; omega, by omega⟩
                  case measure => simp [intOf]; omega
              · have hr : findP l id f' (p + 2 + z.toNat) k = (r1, r2, r3) := by have hf := HFU.out; rw [if_pos ⟨hp2, hy5⟩, if_neg hov, if_pos hyi] at hf; exact hf
                have HRR := Lib.hid hr
                have t7 : (y != id) = true := by simpa using hyi
                clear hy5 hyi hr
                go_wp2
                go_round
                case rel => exact ⟨f', p + 2 + z.toNat, k, rfl, by rw [HZN.out], by omega, by omega, HRR.out, by rw [HL.out]; omega, by omega⟩
                case measure => simp [intOf]; omega
        · have hr : ((0 : Int), (0 : Int), false) = (r1, r2, r3) := by rw [if_neg (by omega)] at hf; exact hf
          injection hr with e1 e2
          injection e2 with e2 e3
          subst e1 e2 e3
          have u1 : ¬ (p : Int) + 2 ≤ (n : Int) := by omega
          have u6 : decide ((p : Int) + 2 ≤ (n : Int)) = false := decide_eq_false u1
          clear hf
          go_wp2
          refine bodyPost_ret (results_tmp3 rfl _ _ _) rfl ?_
          exact ⟨rfl, rfl⟩
    · have hr : findR l id nth = (0, 0, false) := by unfold findR; rw [if_pos (by rw [HG0.out, HG1.out, HL.out]; omega)]
      have hr2 := HR.out.symm.trans hr
      injection hr2 with e1 e2
      injection e2 with e2 e3
      subst e1 e2 e3
      clear hr
      by_cases a0 : x0 = 21365
      · have b0 : (x0 != 21365) = false := by simpa using a0
        by_cases a1 : x1 = 28243
        · have b1 : (x1 != 28243) = false := by simpa using a1
          have b2 : nth < 0 := by omega
          have b3 : decide (nth < 0) = true := decide_eq_true b2
          clear hok a0 a1
          go_in
          go_wp2
          refine bodyPost_ret (results_tmp3 rfl _ _ _) rfl ?_
          exact ⟨rfl, rfl⟩
        · have b1 : (x1 != 28243) = true := by simpa using a1
          clear hok a0 a1
          go_in
          go_wp2
          refine bodyPost_ret (results_tmp3 rfl _ _ _) rfl ?_
          exact ⟨rfl, rfl⟩
      · have b0 : (x0 != 21365) = true := by simpa using a0
        clear hok a0
        go_in
        go_wp2
        refine bodyPost_ret (results_tmp3 rfl _ _ _) rfl ?_
        exact ⟨rfl, rfl⟩
end Go.Proofs.YtnnknnaimabehaaDoor
