/- The law PduBits. -/
import Derived.Test.YtflbiichdjhaeaaPduStr
import Derived.Test.YtflbiichdjhaeaaQuiet
import Derived.Test.YtflbiichdjhaeaaPduMod
import Derived.IntWalk
namespace Go.Proofs.Ytflbiichdjhaeaa
open Go.RowKit


set_option maxRecDepth 100000 in
set_option maxHeartbeats 4000000 in
theorem bits_neg (A0 : Option Addr) (n0 c0 : Nat) (l : List Bool) (A1 : Option Addr) (n1 c1 : Nat) (b : List Int) (n fn code : Int) (p q : AskP) (A2 : Option Addr) (n2 c2 : Nat) (A3 : Option Addr) (n3 c3 : Nat) (A4 : Option Addr) (n4 c4 : Nat) (A5 : Option Addr) (n5 c5 : Nat) (w : World)
    (h0 : SlB w w.heap.size A0 n0 c0 l) (h1 : SlI w w.heap.size .u8 A1 n1 c1 b) (h1i : ∀ x ∈ b, 0 ≤ x ∧ x < 256) (hn : -9223372036854775808 ≤ n ∧ n ≤ 9223372036854775807)
    (h2 : SlB w w.heap.size A2 n2 c2 p.bits) (h3 : SlI w w.heap.size .u16 A3 n3 c3 p.regs) (h4 : SlB w w.heap.size A4 n4 c4 q.bits) (h5 : SlI w w.heap.size .u16 A5 n5 c5 q.regs) (e1 : ¬ 2500 < n0) (e2 : ¬ 300 < n1) (hg2 : (decide (2500 < n2) || decide (300 < n3)) = false) (hg4 : (decide (2500 < n4) || decide (300 < n5)) = false) (e5 : n ≤ 5000) (e6 : n ≤ 0) :
    Calls Try.prog 3 #[.slice A0 n0 c0, .slice A1 n1 c1, .int .i64 n, .int .i64 fn, .int .i64 code, .agg #[.int .i64 p.fn, .int .i64 p.addr, .int .i64 p.count, .int .i64 p.to, .slice A2 n2 c2, .slice A3 n3 c3], .agg #[.int .i64 q.fn, .int .i64 q.addr, .int .i64 q.count, .int .i64 q.to, .slice A4 n4 c4, .slice A5 n5 c5]] w fun e w' => e = .returned (.bool true) ∧ Below w.heap.size w w' := by
  obtain ⟨w2, hw2⟩ : ∃ w2, (w.alloc (.cells #[.int .i64 p.fn, .int .i64 p.addr, .int .i64 p.count, .int .i64 p.to, .slice A2 n2 c2, .slice A3 n3 c3] 26)).alloc (.cells #[.int .i64 q.fn, .int .i64 q.addr, .int .i64 q.count, .int .i64 q.to, .slice A4 n4 c4, .slice A5 n5 c5] 26) = w2 := ⟨_, rfl⟩
  have hb2 : Below w.heap.size w w2 := by rw [← hw2]; exact (((Below.refl _ w).alloc (Nat.le_refl _) _).alloc (by simp) _)
  have hs2 : w2.heap.size = w.heap.size + 2 := by rw [← hw2]; simp
  have hP2 : Held w2 w.heap.size 26 #[.int .i64 p.fn, .int .i64 p.addr, .int .i64 p.count, .int .i64 p.to, .slice A2 n2 c2, .slice A3 n3 c3] := by rw [← hw2]; exact (Held.new w _ _).alloc _
  have hQ2 : Held w2 (w.heap.size + 1) 26 #[.int .i64 q.fn, .int .i64 q.addr, .int .i64 q.count, .int .i64 q.to, .slice A4 n4 c4, .slice A5 n5 c5] := by rw [← hw2]; have := Held.new (w.alloc (.cells #[.int .i64 p.fn, .int .i64 p.addr, .int .i64 p.count, .int .i64 p.to, .slice A2 n2 c2, .slice A3 n3 c3] 26)) 26 #[.int .i64 q.fn, .int .i64 q.addr, .int .i64 q.count, .int .i64 q.to, .slice A4 n4 c4, .slice A5 n5 c5]; rw [World.size_alloc] at this; exact this
  have p4 : w2.cell? ⟨w.heap.size, 4, none⟩ = some (.slice A2 n2 c2) := hP2.cell 4
  have p5 : w2.cell? ⟨w.heap.size, 5, none⟩ = some (.slice A3 n3 c3) := hP2.cell 5
  have q4 : w2.cell? ⟨w.heap.size + 1, 4, none⟩ = some (.slice A4 n4 c4) := hQ2.cell 4
  have q5 : w2.cell? ⟨w.heap.size + 1, 5, none⟩ = some (.slice A5 n5 c5) := hQ2.cell 5
  have HG2 := Lib.hid (fun X => great_any A2 A3 n2 c2 n3 c3 X)
  have HG4 := Lib.hid (fun X => great_any A4 A5 n4 c4 n5 c5 X)
  rw [hg2] at HG2
  rw [hg4] at HG4
  have HL2 := Lib.hid hg2
  have HL4 := Lib.hid hg4
  clear hg2 hg4
  have HP1 := Lib.hid (pack_own A0 n0 c0 l (by omega) w2 (h0.up hb2))
  have HU1 := Lib.hid (fun (X : World) (h : Below w.heap.size w X) => (callsIn_wide (n := 5)).1 (unpack_in A1 n1 c1 b h1.1 h1i n X (h1.2.2.2.2.up h)))
  have HR2 := Lib.hid (fun (X : World) (h : Below w.heap.size w X) => refpack_any A0 n0 c0 l (by omega) X (h0.up h))
  have HBT := Lib.hid (fun (k : Nat) (hk : k ≤ 1000000) (X : World) (h : Below w.heap.size w X) => bit_any A1 n1 c1 b h1.1 h1i k hk X (h1.2.2.2.2.up h))
  have HSA := Lib.hid (fun (X : World) (h : Below w.heap.size w X) => same_own _ _ p q X ⟨A2, n2, c2, A3, n3, c3, rfl, h2.up h, h3.up h⟩ ⟨A4, n4, c4, A5, n5, c5, rfl, h4.up h, h5.up h⟩)
  have HSB := Lib.hid (fun (X : World) (h : Below w.heap.size w X) => same_ref _ _ p q X ⟨A2, n2, c2, A3, n3, c3, rfl, h2.up h, h3.up h⟩ ⟨A4, n4, c4, A5, n5, c5, rfl, h4.up h, h5.up h⟩)
  have HSC := Lib.hid (fun (X : World) (h : Below w.heap.size w X) => same_own _ _ p p X ⟨A2, n2, c2, A3, n3, c3, rfl, h2.up h, h3.up h⟩ ⟨A2, n2, c2, A3, n3, c3, rfl, h2.up h, h3.up h⟩)
  have HSD := Lib.hid (fun (X : World) (h : Below w.heap.size w X) => samer_own _ _ ⟨0, 0, p.bits, p.regs⟩ ⟨0, 0, q.bits, q.regs⟩ X ⟨A2, n2, c2, A3, n3, c3, rfl, h2.up h, h3.up h⟩ ⟨A4, n4, c4, A5, n5, c5, rfl, h4.up h, h5.up h⟩)
  have HSE := Lib.hid (fun (X : World) (h : Below w.heap.size w X) => samer_ref _ _ ⟨0, 0, p.bits, p.regs⟩ ⟨0, 0, q.bits, q.regs⟩ X ⟨A2, n2, c2, A3, n3, c3, rfl, h2.up h, h3.up h⟩ ⟨A4, n4, c4, A5, n5, c5, rfl, h4.up h, h5.up h⟩)
  obtain ⟨sb, hsb⟩ : ∃ s, decide (p = q) = s := ⟨_, rfl⟩
  obtain ⟨sr, hsr⟩ : ∃ s, decide ((⟨0, 0, p.bits, p.regs⟩ : RepP) = ⟨0, 0, q.bits, q.regs⟩) = s := ⟨_, rfl⟩
  rw [hsb] at HSA HSB
  rw [hsr] at HSD HSE
  rw [decide_eq_true (rfl : p = p)] at HSC
  clear hsb hsr
  clear h0 h1 h1i h2 h3 h4 h5
  go_in
  go_wp2_with (first
      | (go_at_call 4; (with_reducible refine (HG2.out _).mono ?_); rintro e w' ⟨rfl, rfl⟩)
      | (go_at_call 4; (with_reducible refine (HG4.out _).mono ?_); rintro e w' ⟨rfl, rfl⟩))
  refine HP1.out.mono ?_
  rintro e w3 ⟨v3, rfl, hown3, hb3⟩
  have hz3 := hb3.size
  have hb3w := hb2.trans (hb3.mono hb2.size)
  have hP3 := hP2.below hb3 hP2.lt
  have hQ3 := hQ2.below hb3 hQ2.lt
  clear hP2 hQ2 p4 p5 q4 q5
  go_wp2_with fail
  refine (HU1.out w3 hb3w).mono ?_
  rintro e w4 ⟨⟨A6, m6, c6, rfl, hs6⟩, hb4⟩
  have hz4 := hb4.size
  have hb4w := hb3w.trans (hb4.mono (by omega))
  have hown4 := own_up hown3 hb4
  obtain ⟨St, hSt⟩ : ∃ S, strOfNums (packN l) = S := ⟨_, rfl⟩
  obtain ⟨w5, hw5⟩ : ∃ w5 : World, w4.drew = w5 := ⟨_, rfl⟩
  have hb45 : Below w4.heap.size w4 w5 := by rw [← hw5]; exact (Below.refl _ _).drew
  have hb5w := hb4w.trans (hb45.mono (by omega))
  have hz5 := hb45.size
  have hP5 := (hP3.below hb4 hP3.lt).below hb45 (hP3.below hb4 hP3.lt).lt
  have hQ5 := (hQ3.below hb4 hQ3.lt).below hb45 (hQ3.below hb4 hQ3.lt).lt
  have HC5 : Hid (∀ W, Below w5.heap.size w5 W → (convert 23 9 v3).run Try.prog W = .ok (.string St) W) := Lib.hid (fun W h => by rw [← hSt]; exact conv_own (own_up (own_up hown4 hb45) h))
  have HST := Lib.hid hSt
  have hm6 : (m6 : Int) = 0 := by
    have h := hs6.1; unfold unpackV at h; rw [if_neg (by omega), unpackP_len] at h; omega
  have HU := Lib.hid (show unpackV b n = unpackP b m6 by
    unfold unpackV; rw [if_neg (by omega), show n.toNat = m6 by omega])
  have hne6 : ((m6 : Int) != 0) = false := by simpa using hm6
  have HS6 := Lib.hid (fun (X : World) (h : Below w5.heap.size w5 X) => ((hs6.up hb45).up h).2.2.2.2)
  have HL6 := Lib.hid hs6.1
  clear hown3 hown4 hSt hs6 hP3 hQ3
  have hm6n : m6 ≤ 5000 := by omega
  have HM6 := Lib.hid hm6
  clear hm6
  go_wp2_with fail
  refine wp_region_held (S := Below w5.heap.size w5) (by kernel_rfl) ?_
  change wpAnyH _ _ _ _ _ _ _ _ w4.drew
  rw [hw5]
  have hS := Below.refl w5.heap.size w5
  refine wpAnyH_take (i := 0) (v := ?v0_1) rfl (by kernel_rfl) (by kernel_rfl) (by kernel_rfl) (fun _ _ _ h => h) (Or.inl ⟨by rfl, ?y0_1⟩) hS ?r0_1
  case y0_1 =>
    rintro W hH
    have hc5 := HC5.out W hH
    go_simp
    with_reducible rfl
  simp only [Act.put]
  try simp only [List.getElem_toArray, List.getElem_cons_zero]
  try simp only [List.setIfInBounds_toArray, List.set_cons_succ, List.set_cons_zero]
  refine wpAnyH_take (i := 1) (v := ?v1_2) rfl (by kernel_rfl) (by kernel_rfl) (by kernel_rfl) (fun _ _ _ h => h) (Or.inl ⟨by rfl, ?y1_2⟩) hS ?r1_2
  case y1_2 =>
    rintro W hH
    have hc5 := HC5.out W hH
    go_simp
    with_reducible rfl
  simp only [Act.put]
  try simp only [List.getElem_toArray, List.getElem_cons_succ, List.getElem_cons_zero]
  try simp only [List.setIfInBounds_toArray, List.set_cons_succ, List.set_cons_zero]
  refine wpAnyH_take (i := 2) (v := ?v2_3) rfl (by kernel_rfl) (by kernel_rfl) (by kernel_rfl) (fun _ _ _ h => h) (Or.inl ⟨by rfl, ?y2_3⟩) hS ?r2_3
  case y2_3 =>
    rintro W hH
    have hc5 := HC5.out W hH
    go_simp
    with_reducible rfl
  simp only [Act.put]
  try simp only [List.getElem_toArray, List.getElem_cons_succ, List.getElem_cons_zero]
  try simp only [List.setIfInBounds_toArray, List.set_cons_succ, List.set_cons_zero]
  refine wpAnyH_ready (rs := [3]) (by kernel_rfl) (by simp) ?_
  refine AllReadyH.cons rfl (fun K' hK' => ?_) AllReadyH.nil
  go_simp
  refine (HR2.out _ (hb5w.trans (hS.mono (by omega)))).mono ?_
  rintro e w6 ⟨v6, rfl, hown6, hb6⟩
  have hS2 : Below w5.heap.size w5 w6 := hS.trans (hb6.mono hS.size)
  have hc6 := conv_own hown6
  rw [HST.out] at hc6
  clear hS hb6
  go_simp
  refine hK'.out _ _ hS2 (fun hS => ?_)
  clear hK' K'
  refine wpAnyH_ready (rs := [4]) (by kernel_rfl) (by simp) ?_
  refine AllReadyH.cons rfl (fun K' hK' => ?_) AllReadyH.nil
  go_simp
  refine hK'.out _ _ hS (fun hS => ?_)
  clear hK' K'
  refine wpAnyH_take (i := 5) (v := ?v5_4) rfl (by kernel_rfl) (by kernel_rfl) (by kernel_rfl) (fun _ _ _ h => h) (Or.inl ⟨by rfl, ?y5_4⟩) hS ?r5_4
  case y5_4 =>
    rintro W hH
    have hc5 := HC5.out W hH
    go_simp
    with_reducible rfl
  simp only [Act.put]
  try simp only [List.getElem_toArray, List.getElem_cons_succ, List.getElem_cons_zero]
  try simp only [List.setIfInBounds_toArray, List.set_cons_succ, List.set_cons_zero]
  refine wpAnyH_take (i := 6) (v := ?v6_5) rfl (by kernel_rfl) (by kernel_rfl) (by kernel_rfl) (fun _ _ _ h => h) (Or.inl ⟨by rfl, ?y6_5⟩) hS ?r6_5
  case y6_5 =>
    rintro W hH
    have hc5 := HC5.out W hH
    go_simp
    with_reducible rfl
  simp only [Act.put]
  try simp only [List.getElem_toArray, List.getElem_cons_succ, List.getElem_cons_zero]
  try simp only [List.setIfInBounds_toArray, List.set_cons_succ, List.set_cons_zero]
  refine wpAnyH_take (i := 7) (v := ?v7_6) rfl (by kernel_rfl) (by kernel_rfl) (by kernel_rfl) (fun _ _ _ h => h) (Or.inl ⟨by rfl, ?y7_6⟩) hS ?r7_6
  case y7_6 =>
    rintro W hH
    have hc5 := HC5.out W hH
    go_simp
    with_reducible rfl
  simp only [Act.put]
  try simp only [List.getElem_toArray, List.getElem_cons_succ, List.getElem_cons_zero]
  try simp only [List.setIfInBounds_toArray, List.set_cons_succ, List.set_cons_zero]
  refine wpAnyH_take (i := 8) (v := ?v8_7) rfl (by kernel_rfl) (by kernel_rfl) (by kernel_rfl) (fun _ _ _ h => h) (Or.inl ⟨by rfl, ?y8_7⟩) hS ?r8_7
  case y8_7 =>
    rintro W hH
    have hc5 := HC5.out W hH
    go_simp
    with_reducible rfl
  simp only [Act.put]
  try simp only [List.getElem_toArray, List.getElem_cons_succ, List.getElem_cons_zero]
  try simp only [List.setIfInBounds_toArray, List.set_cons_succ, List.set_cons_zero]
  refine wpAnyH_take (i := 9) (v := ?v9_8) rfl (by kernel_rfl) (by kernel_rfl) (by kernel_rfl) (fun _ _ _ h => h) (Or.inl ⟨by rfl, ?y9_8⟩) hS ?r9_8
  case y9_8 =>
    rintro W hH
    have hc5 := HC5.out W hH
    go_simp
    with_reducible rfl
  simp only [Act.put]
  try simp only [List.getElem_toArray, List.getElem_cons_succ, List.getElem_cons_zero]
  try simp only [List.setIfInBounds_toArray, List.set_cons_succ, List.set_cons_zero]
  refine wpAnyH_take (i := 10) (v := ?v10_9) rfl (by kernel_rfl) (by kernel_rfl) (by kernel_rfl) (fun _ _ _ h => h) (Or.inl ⟨by rfl, ?y10_9⟩) hS ?r10_9
  case y10_9 =>
    rintro W hH
    have hc5 := HC5.out W hH
    go_simp
    with_reducible rfl
  simp only [Act.put]
  try simp only [List.getElem_toArray, List.getElem_cons_succ, List.getElem_cons_zero]
  try simp only [List.setIfInBounds_toArray, List.set_cons_succ, List.set_cons_zero]
  refine wpAnyH_take (i := 11) (v := ?v11_10) rfl (by kernel_rfl) (by kernel_rfl) (by kernel_rfl) (fun _ _ _ h => h) (Or.inl ⟨by rfl, ?y11_10⟩) hS ?r11_10
  case y11_10 =>
    rintro W hH
    have hc5 := HC5.out W hH
    go_simp
    with_reducible rfl
  simp only [Act.put]
  try simp only [List.getElem_toArray, List.getElem_cons_succ, List.getElem_cons_zero]
  try simp only [List.setIfInBounds_toArray, List.set_cons_succ, List.set_cons_zero]
  refine wpAnyH_done (by kernel_rfl) ?_ _
  have hP6 := hP5.below hS hP5.lt
  have hQ6 := hQ5.below hS hQ5.lt
  have hz6 := hS.size
  have hb6w := hb5w.trans (hS.mono (by omega))
  clear hP5 hQ5 HC5 hc6 hown6
  go_wp2_with fail
  go_loopw [18] (fun u18 wx => ∃ k : Nat, k ≤ m6 ∧ u18 = .int .i64 k ∧ Below w6.heap.size w6 wx) (fun u18 _ => m6 - (intOf u18).toNat)
  case atStart => exact ⟨0, by omega, rfl, Below.refl _ _⟩
  case round =>
    obtain ⟨k, hk, rfl, hbr⟩ := hrel
    have hbrw := hb6w.trans (hbr.mono (by omega))
    by_cases hlt : k < m6
    · obtain ⟨g, off, x, rfl, hg, hx, hc⟩ := (HS6.out wr (hS.trans (hbr.mono (by omega)))).at_ (i := k) (by rw [HL6.out]; exact hlt)
      have hxe : x = bitAt b k := by
        rw [HU.out] at hx
        simp [unpackP, hlt] at hx
        exact hx.symm
      have hbt := fun m => HBT.out k (by omega) (wr.drewN m) (below_drewN hbrw m)
      obtain ⟨y, hy⟩ : ∃ y, bitAt b k = y := ⟨_, rfl⟩
      rw [hy] at hxe
      simp only [hy] at hbt
      subst hxe
      have hyy : (!(x == x)) = false := by cases x <;> rfl
      have hyy2 : (x != x) = false := hyy
      clear hx hy
      have HB := Lib.hid hbt
      clear hbt
      go_wp2_with fail
      go_quiet ((go_at_call 8; exact quiet_left (HB.out _)))
      go_wp2_with fail
      go_roundw
      case rel => exact ⟨k + 1, by omega, by go_num, below_drewN hbr _⟩
      case measure => simp [intOf]; omega
    · obtain rfl : k = m6 := by omega
      have hP7 := hP6.below hbr hP6.lt
      have hQ7 := hQ6.below hbr hQ6.lt
      clear hP6 hQ6 HS6 HU
      go_wp2_with fail
      have hbr7 := hbrw
      obtain ⟨t1, ht1⟩ : ∃ r, fn.tmod 128 = r := ⟨_, rfl⟩
      obtain ⟨t2, ht2⟩ : ∃ r, code.tmod 256 = r := ⟨_, rfl⟩
      obtain ⟨f1, hf1⟩ : ∃ r, fn % 128 = r := ⟨_, rfl⟩
      obtain ⟨f2, hf2⟩ : ∃ r, code % 256 = r := ⟨_, rfl⟩
      obtain ⟨a1, a2, a3⟩ := tmod128 fn
      obtain ⟨a4, a5, a6⟩ := tmod256 code
      rw [ht1] at a1 a2 a3
      rw [ht2] at a4 a5 a6
      rw [hf1] at a3
      rw [hf2] at a6
      have a7 : 0 ≤ f1 ∧ f1 < 128 := by omega
      have a8 : 0 ≤ f2 ∧ f2 < 256 := by omega
      obtain ⟨a7, a9⟩ := a7
      obtain ⟨a8, a10⟩ := a8
      obtain ⟨s1, hs1⟩ : ∃ r, t1 + 128 = r := ⟨_, rfl⟩
      obtain ⟨s2, hs2⟩ : ∃ r, t2 + 256 = r := ⟨_, rfl⟩
      rw [hs1] at a3
      rw [hs2] at a6
      have b1 : 0 ≤ s1 := by omega
      have b2 : s1 < 256 := by omega
      have b3 : 0 ≤ s2 := by omega
      have b4 : s2 < 512 := by omega
      have b5 : s1.tmod 128 = f1 := by rw [Int.tmod_eq_emod_of_nonneg b1]; exact a3
      have b6 : s2.tmod 256 = f2 := by rw [Int.tmod_eq_emod_of_nonneg b3]; exact a6
      have hu := Try.underlying26
      have hsz : (Try.prog.info? 26).map (·.size) = some 6 := by kernel_rfl
      go_wp2_with fail
      refine (refuse_any fn code _).mono ?_
      rintro e w7 ⟨rfl, hw7⟩
      rw [hf1, hf2] at hw7
      have hb7 : Below wr.heap.size wr w7 := by rw [hw7]; exact (Below.refl _ wr).alloc (Nat.le_refl _) _
      have hR7 : Held w7 wr.heap.size 5 #[.int .u8 (128 + f1), .int .u8 f2] := by rw [hw7]; exact Held.new _ _ _
      have r0 : w7.cell? ⟨wr.heap.size, 0, none⟩ = some (.int .u8 (128 + f1)) := hR7.cell 0
      have r1 : w7.cell? ⟨wr.heap.size, 1, none⟩ = some (.int .u8 f2) := hR7.cell 1
      have hb7w := hbrw.trans (hb7.mono hbrw.size)
      have hP8 := hP7.below hb7 hP7.lt
      have hQ8 := hQ7.below hb7 hQ7.lt
      obtain ⟨w8, hw8⟩ : ∃ w8 : World, w7.drew = w8 := ⟨_, rfl⟩
      have wr1 : IntKind.i64.wrap (128 + f1) = 128 + f1 := IntWalk.i64_in _ (by omega)
      have wr2 : IntKind.i64.wrap s1 = s1 := IntWalk.i64_in _ (by omega)
      have wr3 : IntKind.i64.wrap f2 = f2 := IntWalk.i64_in _ (by omega)
      have wr4 : IntKind.i64.wrap s2 = s2 := IntWalk.i64_in _ (by omega)
      have hb8w : Below w.heap.size w w8 := by rw [← hw8]; exact hb7w.drew
      have hP9 : Held w8 w.heap.size 26 #[.int .i64 p.fn, .int .i64 p.addr, .int .i64 p.count, .int .i64 p.to, .slice A2 n2 c2, .slice A3 n3 c3] := by rw [← hw8]; exact hP8
      have hQ9 : Held w8 (w.heap.size + 1) 26 #[.int .i64 q.fn, .int .i64 q.addr, .int .i64 q.count, .int .i64 q.to, .slice A4 n4 c4, .slice A5 n5 c5] := by rw [← hw8]; exact hQ8
      have hR9 : Held w8 wr.heap.size 5 #[.int .u8 (128 + f1), .int .u8 f2] := by rw [← hw8]; exact hR7
      have hz8 := hb8w.size
      clear hw7 hR7 hP7 hQ7 hP8 hQ8
      go_wp2_with fail
      simp only [List.append_eq, List.cons_append, List.nil_append]
      refine wp_region_held (S := Below w8.heap.size w8) (by kernel_rfl) ?_
      change wpAnyH _ _ _ _ _ _ _ _ w7.drew
      rw [hw8]
      have hS := Below.refl w8.heap.size w8
      refine wpAnyH_take (i := 0) (v := ?v0_501) rfl (by kernel_rfl) (by kernel_rfl) (by kernel_rfl) (fun _ _ _ h => h) (Or.inl ⟨by rfl, ?y0_501⟩) hS ?r0_501
      case y0_501 =>
        rintro W hH
        have hPW := hP9.below hH hP9.lt
        have hQW := hQ9.below hH hQ9.lt
        have hRW := hR9.below hH hR9.lt
        have p0 : W.cell? ⟨w.heap.size, 0, none⟩ = some (.int .i64 p.fn) := hPW.cell 0
        have p1 : W.cell? ⟨w.heap.size, 1, none⟩ = some (.int .i64 p.addr) := hPW.cell 1
        have p2 : W.cell? ⟨w.heap.size, 2, none⟩ = some (.int .i64 p.count) := hPW.cell 2
        have p3 : W.cell? ⟨w.heap.size, 3, none⟩ = some (.int .i64 p.to) := hPW.cell 3
        have p4 : W.cell? ⟨w.heap.size, 4, none⟩ = some (.slice A2 n2 c2) := hPW.cell 4
        have p5 : W.cell? ⟨w.heap.size, 5, none⟩ = some (.slice A3 n3 c3) := hPW.cell 5
        have q0 : W.cell? ⟨w.heap.size + 1, 0, none⟩ = some (.int .i64 q.fn) := hQW.cell 0
        have q1 : W.cell? ⟨w.heap.size + 1, 1, none⟩ = some (.int .i64 q.addr) := hQW.cell 1
        have q2 : W.cell? ⟨w.heap.size + 1, 2, none⟩ = some (.int .i64 q.count) := hQW.cell 2
        have q3 : W.cell? ⟨w.heap.size + 1, 3, none⟩ = some (.int .i64 q.to) := hQW.cell 3
        have q4 : W.cell? ⟨w.heap.size + 1, 4, none⟩ = some (.slice A4 n4 c4) := hQW.cell 4
        have q5 : W.cell? ⟨w.heap.size + 1, 5, none⟩ = some (.slice A5 n5 c5) := hQW.cell 5
        have r0 : W.cell? ⟨wr.heap.size, 0, none⟩ = some (.int .u8 (128 + f1)) := hRW.cell 0
        have r1 : W.cell? ⟨wr.heap.size, 1, none⟩ = some (.int .u8 f2) := hRW.cell 1
        clear hPW hQW hRW
        go_simp
        with_reducible rfl
      simp only [Act.put]
      try simp only [List.getElem_toArray, List.getElem_cons_zero]
      try simp only [List.setIfInBounds_toArray, List.set_cons_succ, List.set_cons_zero]
      refine wpAnyH_take (i := 1) (v := ?v1_502) rfl (by kernel_rfl) (by kernel_rfl) (by kernel_rfl) (fun _ _ _ h => h) (Or.inl ⟨by rfl, ?y1_502⟩) hS ?r1_502
      case y1_502 =>
        rintro W hH
        have hPW := hP9.below hH hP9.lt
        have hQW := hQ9.below hH hQ9.lt
        have hRW := hR9.below hH hR9.lt
        have p0 : W.cell? ⟨w.heap.size, 0, none⟩ = some (.int .i64 p.fn) := hPW.cell 0
        have p1 : W.cell? ⟨w.heap.size, 1, none⟩ = some (.int .i64 p.addr) := hPW.cell 1
        have p2 : W.cell? ⟨w.heap.size, 2, none⟩ = some (.int .i64 p.count) := hPW.cell 2
        have p3 : W.cell? ⟨w.heap.size, 3, none⟩ = some (.int .i64 p.to) := hPW.cell 3
        have p4 : W.cell? ⟨w.heap.size, 4, none⟩ = some (.slice A2 n2 c2) := hPW.cell 4
        have p5 : W.cell? ⟨w.heap.size, 5, none⟩ = some (.slice A3 n3 c3) := hPW.cell 5
        have q0 : W.cell? ⟨w.heap.size + 1, 0, none⟩ = some (.int .i64 q.fn) := hQW.cell 0
        have q1 : W.cell? ⟨w.heap.size + 1, 1, none⟩ = some (.int .i64 q.addr) := hQW.cell 1
        have q2 : W.cell? ⟨w.heap.size + 1, 2, none⟩ = some (.int .i64 q.count) := hQW.cell 2
        have q3 : W.cell? ⟨w.heap.size + 1, 3, none⟩ = some (.int .i64 q.to) := hQW.cell 3
        have q4 : W.cell? ⟨w.heap.size + 1, 4, none⟩ = some (.slice A4 n4 c4) := hQW.cell 4
        have q5 : W.cell? ⟨w.heap.size + 1, 5, none⟩ = some (.slice A5 n5 c5) := hQW.cell 5
        have r0 : W.cell? ⟨wr.heap.size, 0, none⟩ = some (.int .u8 (128 + f1)) := hRW.cell 0
        have r1 : W.cell? ⟨wr.heap.size, 1, none⟩ = some (.int .u8 f2) := hRW.cell 1
        clear hPW hQW hRW
        go_simp
        with_reducible rfl
      simp only [Act.put]
      try simp only [List.getElem_toArray, List.getElem_cons_succ, List.getElem_cons_zero]
      try simp only [List.setIfInBounds_toArray, List.set_cons_succ, List.set_cons_zero]
      refine wpAnyH_take (i := 2) (v := ?v2_503) rfl (by kernel_rfl) (by kernel_rfl) (by kernel_rfl) (fun _ _ _ h => h) (Or.inl ⟨by rfl, ?y2_503⟩) hS ?r2_503
      case y2_503 =>
        rintro W hH
        have hPW := hP9.below hH hP9.lt
        have hQW := hQ9.below hH hQ9.lt
        have hRW := hR9.below hH hR9.lt
        have p0 : W.cell? ⟨w.heap.size, 0, none⟩ = some (.int .i64 p.fn) := hPW.cell 0
        have p1 : W.cell? ⟨w.heap.size, 1, none⟩ = some (.int .i64 p.addr) := hPW.cell 1
        have p2 : W.cell? ⟨w.heap.size, 2, none⟩ = some (.int .i64 p.count) := hPW.cell 2
        have p3 : W.cell? ⟨w.heap.size, 3, none⟩ = some (.int .i64 p.to) := hPW.cell 3
        have p4 : W.cell? ⟨w.heap.size, 4, none⟩ = some (.slice A2 n2 c2) := hPW.cell 4
        have p5 : W.cell? ⟨w.heap.size, 5, none⟩ = some (.slice A3 n3 c3) := hPW.cell 5
        have q0 : W.cell? ⟨w.heap.size + 1, 0, none⟩ = some (.int .i64 q.fn) := hQW.cell 0
        have q1 : W.cell? ⟨w.heap.size + 1, 1, none⟩ = some (.int .i64 q.addr) := hQW.cell 1
        have q2 : W.cell? ⟨w.heap.size + 1, 2, none⟩ = some (.int .i64 q.count) := hQW.cell 2
        have q3 : W.cell? ⟨w.heap.size + 1, 3, none⟩ = some (.int .i64 q.to) := hQW.cell 3
        have q4 : W.cell? ⟨w.heap.size + 1, 4, none⟩ = some (.slice A4 n4 c4) := hQW.cell 4
        have q5 : W.cell? ⟨w.heap.size + 1, 5, none⟩ = some (.slice A5 n5 c5) := hQW.cell 5
        have r0 : W.cell? ⟨wr.heap.size, 0, none⟩ = some (.int .u8 (128 + f1)) := hRW.cell 0
        have r1 : W.cell? ⟨wr.heap.size, 1, none⟩ = some (.int .u8 f2) := hRW.cell 1
        clear hPW hQW hRW
        go_simp
        with_reducible rfl
      simp only [Act.put]
      try simp only [List.getElem_toArray, List.getElem_cons_succ, List.getElem_cons_zero]
      try simp only [List.setIfInBounds_toArray, List.set_cons_succ, List.set_cons_zero]
      refine wpAnyH_take (i := 3) (v := ?v3_504) rfl (by kernel_rfl) (by kernel_rfl) (by kernel_rfl) (fun _ _ _ h => h) (Or.inl ⟨by rfl, ?y3_504⟩) hS ?r3_504
      case y3_504 =>
        rintro W hH
        have hPW := hP9.below hH hP9.lt
        have hQW := hQ9.below hH hQ9.lt
        have hRW := hR9.below hH hR9.lt
        have p0 : W.cell? ⟨w.heap.size, 0, none⟩ = some (.int .i64 p.fn) := hPW.cell 0
        have p1 : W.cell? ⟨w.heap.size, 1, none⟩ = some (.int .i64 p.addr) := hPW.cell 1
        have p2 : W.cell? ⟨w.heap.size, 2, none⟩ = some (.int .i64 p.count) := hPW.cell 2
        have p3 : W.cell? ⟨w.heap.size, 3, none⟩ = some (.int .i64 p.to) := hPW.cell 3
        have p4 : W.cell? ⟨w.heap.size, 4, none⟩ = some (.slice A2 n2 c2) := hPW.cell 4
        have p5 : W.cell? ⟨w.heap.size, 5, none⟩ = some (.slice A3 n3 c3) := hPW.cell 5
        have q0 : W.cell? ⟨w.heap.size + 1, 0, none⟩ = some (.int .i64 q.fn) := hQW.cell 0
        have q1 : W.cell? ⟨w.heap.size + 1, 1, none⟩ = some (.int .i64 q.addr) := hQW.cell 1
        have q2 : W.cell? ⟨w.heap.size + 1, 2, none⟩ = some (.int .i64 q.count) := hQW.cell 2
        have q3 : W.cell? ⟨w.heap.size + 1, 3, none⟩ = some (.int .i64 q.to) := hQW.cell 3
        have q4 : W.cell? ⟨w.heap.size + 1, 4, none⟩ = some (.slice A4 n4 c4) := hQW.cell 4
        have q5 : W.cell? ⟨w.heap.size + 1, 5, none⟩ = some (.slice A5 n5 c5) := hQW.cell 5
        have r0 : W.cell? ⟨wr.heap.size, 0, none⟩ = some (.int .u8 (128 + f1)) := hRW.cell 0
        have r1 : W.cell? ⟨wr.heap.size, 1, none⟩ = some (.int .u8 f2) := hRW.cell 1
        clear hPW hQW hRW
        go_simp
        with_reducible rfl
      simp only [Act.put]
      try simp only [List.getElem_toArray, List.getElem_cons_succ, List.getElem_cons_zero]
      try simp only [List.setIfInBounds_toArray, List.set_cons_succ, List.set_cons_zero]
      refine wpAnyH_take (i := 4) (v := ?v4_505) rfl (by kernel_rfl) (by kernel_rfl) (by kernel_rfl) (fun _ _ _ h => h) (Or.inl ⟨by rfl, ?y4_505⟩) hS ?r4_505
      case y4_505 =>
        rintro W hH
        have hPW := hP9.below hH hP9.lt
        have hQW := hQ9.below hH hQ9.lt
        have hRW := hR9.below hH hR9.lt
        have p0 : W.cell? ⟨w.heap.size, 0, none⟩ = some (.int .i64 p.fn) := hPW.cell 0
        have p1 : W.cell? ⟨w.heap.size, 1, none⟩ = some (.int .i64 p.addr) := hPW.cell 1
        have p2 : W.cell? ⟨w.heap.size, 2, none⟩ = some (.int .i64 p.count) := hPW.cell 2
        have p3 : W.cell? ⟨w.heap.size, 3, none⟩ = some (.int .i64 p.to) := hPW.cell 3
        have p4 : W.cell? ⟨w.heap.size, 4, none⟩ = some (.slice A2 n2 c2) := hPW.cell 4
        have p5 : W.cell? ⟨w.heap.size, 5, none⟩ = some (.slice A3 n3 c3) := hPW.cell 5
        have q0 : W.cell? ⟨w.heap.size + 1, 0, none⟩ = some (.int .i64 q.fn) := hQW.cell 0
        have q1 : W.cell? ⟨w.heap.size + 1, 1, none⟩ = some (.int .i64 q.addr) := hQW.cell 1
        have q2 : W.cell? ⟨w.heap.size + 1, 2, none⟩ = some (.int .i64 q.count) := hQW.cell 2
        have q3 : W.cell? ⟨w.heap.size + 1, 3, none⟩ = some (.int .i64 q.to) := hQW.cell 3
        have q4 : W.cell? ⟨w.heap.size + 1, 4, none⟩ = some (.slice A4 n4 c4) := hQW.cell 4
        have q5 : W.cell? ⟨w.heap.size + 1, 5, none⟩ = some (.slice A5 n5 c5) := hQW.cell 5
        have r0 : W.cell? ⟨wr.heap.size, 0, none⟩ = some (.int .u8 (128 + f1)) := hRW.cell 0
        have r1 : W.cell? ⟨wr.heap.size, 1, none⟩ = some (.int .u8 f2) := hRW.cell 1
        clear hPW hQW hRW
        go_simp
        with_reducible rfl
      simp only [Act.put]
      try simp only [List.getElem_toArray, List.getElem_cons_succ, List.getElem_cons_zero]
      try simp only [List.setIfInBounds_toArray, List.set_cons_succ, List.set_cons_zero]
      refine wpAnyH_take (i := 5) (v := ?v5_506) rfl (by kernel_rfl) (by kernel_rfl) (by kernel_rfl) (fun _ _ _ h => h) (Or.inl ⟨by rfl, ?y5_506⟩) hS ?r5_506
      case y5_506 =>
        rintro W hH
        have hPW := hP9.below hH hP9.lt
        have hQW := hQ9.below hH hQ9.lt
        have hRW := hR9.below hH hR9.lt
        have p0 : W.cell? ⟨w.heap.size, 0, none⟩ = some (.int .i64 p.fn) := hPW.cell 0
        have p1 : W.cell? ⟨w.heap.size, 1, none⟩ = some (.int .i64 p.addr) := hPW.cell 1
        have p2 : W.cell? ⟨w.heap.size, 2, none⟩ = some (.int .i64 p.count) := hPW.cell 2
        have p3 : W.cell? ⟨w.heap.size, 3, none⟩ = some (.int .i64 p.to) := hPW.cell 3
        have p4 : W.cell? ⟨w.heap.size, 4, none⟩ = some (.slice A2 n2 c2) := hPW.cell 4
        have p5 : W.cell? ⟨w.heap.size, 5, none⟩ = some (.slice A3 n3 c3) := hPW.cell 5
        have q0 : W.cell? ⟨w.heap.size + 1, 0, none⟩ = some (.int .i64 q.fn) := hQW.cell 0
        have q1 : W.cell? ⟨w.heap.size + 1, 1, none⟩ = some (.int .i64 q.addr) := hQW.cell 1
        have q2 : W.cell? ⟨w.heap.size + 1, 2, none⟩ = some (.int .i64 q.count) := hQW.cell 2
        have q3 : W.cell? ⟨w.heap.size + 1, 3, none⟩ = some (.int .i64 q.to) := hQW.cell 3
        have q4 : W.cell? ⟨w.heap.size + 1, 4, none⟩ = some (.slice A4 n4 c4) := hQW.cell 4
        have q5 : W.cell? ⟨w.heap.size + 1, 5, none⟩ = some (.slice A5 n5 c5) := hQW.cell 5
        have r0 : W.cell? ⟨wr.heap.size, 0, none⟩ = some (.int .u8 (128 + f1)) := hRW.cell 0
        have r1 : W.cell? ⟨wr.heap.size, 1, none⟩ = some (.int .u8 f2) := hRW.cell 1
        clear hPW hQW hRW
        go_simp
        with_reducible rfl
      simp only [Act.put]
      try simp only [List.getElem_toArray, List.getElem_cons_succ, List.getElem_cons_zero]
      try simp only [List.setIfInBounds_toArray, List.set_cons_succ, List.set_cons_zero]
      refine wpAnyH_take (i := 6) (v := ?v6_507) rfl (by kernel_rfl) (by kernel_rfl) (by kernel_rfl) (fun _ _ _ h => h) (Or.inl ⟨by rfl, ?y6_507⟩) hS ?r6_507
      case y6_507 =>
        rintro W hH
        have hPW := hP9.below hH hP9.lt
        have hQW := hQ9.below hH hQ9.lt
        have hRW := hR9.below hH hR9.lt
        have p0 : W.cell? ⟨w.heap.size, 0, none⟩ = some (.int .i64 p.fn) := hPW.cell 0
        have p1 : W.cell? ⟨w.heap.size, 1, none⟩ = some (.int .i64 p.addr) := hPW.cell 1
        have p2 : W.cell? ⟨w.heap.size, 2, none⟩ = some (.int .i64 p.count) := hPW.cell 2
        have p3 : W.cell? ⟨w.heap.size, 3, none⟩ = some (.int .i64 p.to) := hPW.cell 3
        have p4 : W.cell? ⟨w.heap.size, 4, none⟩ = some (.slice A2 n2 c2) := hPW.cell 4
        have p5 : W.cell? ⟨w.heap.size, 5, none⟩ = some (.slice A3 n3 c3) := hPW.cell 5
        have q0 : W.cell? ⟨w.heap.size + 1, 0, none⟩ = some (.int .i64 q.fn) := hQW.cell 0
        have q1 : W.cell? ⟨w.heap.size + 1, 1, none⟩ = some (.int .i64 q.addr) := hQW.cell 1
        have q2 : W.cell? ⟨w.heap.size + 1, 2, none⟩ = some (.int .i64 q.count) := hQW.cell 2
        have q3 : W.cell? ⟨w.heap.size + 1, 3, none⟩ = some (.int .i64 q.to) := hQW.cell 3
        have q4 : W.cell? ⟨w.heap.size + 1, 4, none⟩ = some (.slice A4 n4 c4) := hQW.cell 4
        have q5 : W.cell? ⟨w.heap.size + 1, 5, none⟩ = some (.slice A5 n5 c5) := hQW.cell 5
        have r0 : W.cell? ⟨wr.heap.size, 0, none⟩ = some (.int .u8 (128 + f1)) := hRW.cell 0
        have r1 : W.cell? ⟨wr.heap.size, 1, none⟩ = some (.int .u8 f2) := hRW.cell 1
        clear hPW hQW hRW
        go_simp
        with_reducible rfl
      simp only [Act.put]
      try simp only [List.getElem_toArray, List.getElem_cons_succ, List.getElem_cons_zero]
      try simp only [List.setIfInBounds_toArray, List.set_cons_succ, List.set_cons_zero]
      refine wpAnyH_take (i := 7) (v := ?v7_508) rfl (by kernel_rfl) (by kernel_rfl) (by kernel_rfl) (fun _ _ _ h => h) (Or.inl ⟨by rfl, ?y7_508⟩) hS ?r7_508
      case y7_508 =>
        rintro W hH
        have hPW := hP9.below hH hP9.lt
        have hQW := hQ9.below hH hQ9.lt
        have hRW := hR9.below hH hR9.lt
        have p0 : W.cell? ⟨w.heap.size, 0, none⟩ = some (.int .i64 p.fn) := hPW.cell 0
        have p1 : W.cell? ⟨w.heap.size, 1, none⟩ = some (.int .i64 p.addr) := hPW.cell 1
        have p2 : W.cell? ⟨w.heap.size, 2, none⟩ = some (.int .i64 p.count) := hPW.cell 2
        have p3 : W.cell? ⟨w.heap.size, 3, none⟩ = some (.int .i64 p.to) := hPW.cell 3
        have p4 : W.cell? ⟨w.heap.size, 4, none⟩ = some (.slice A2 n2 c2) := hPW.cell 4
        have p5 : W.cell? ⟨w.heap.size, 5, none⟩ = some (.slice A3 n3 c3) := hPW.cell 5
        have q0 : W.cell? ⟨w.heap.size + 1, 0, none⟩ = some (.int .i64 q.fn) := hQW.cell 0
        have q1 : W.cell? ⟨w.heap.size + 1, 1, none⟩ = some (.int .i64 q.addr) := hQW.cell 1
        have q2 : W.cell? ⟨w.heap.size + 1, 2, none⟩ = some (.int .i64 q.count) := hQW.cell 2
        have q3 : W.cell? ⟨w.heap.size + 1, 3, none⟩ = some (.int .i64 q.to) := hQW.cell 3
        have q4 : W.cell? ⟨w.heap.size + 1, 4, none⟩ = some (.slice A4 n4 c4) := hQW.cell 4
        have q5 : W.cell? ⟨w.heap.size + 1, 5, none⟩ = some (.slice A5 n5 c5) := hQW.cell 5
        have r0 : W.cell? ⟨wr.heap.size, 0, none⟩ = some (.int .u8 (128 + f1)) := hRW.cell 0
        have r1 : W.cell? ⟨wr.heap.size, 1, none⟩ = some (.int .u8 f2) := hRW.cell 1
        clear hPW hQW hRW
        go_simp
        with_reducible rfl
      simp only [Act.put]
      try simp only [List.getElem_toArray, List.getElem_cons_succ, List.getElem_cons_zero]
      try simp only [List.setIfInBounds_toArray, List.set_cons_succ, List.set_cons_zero]
      refine wpAnyH_take (i := 8) (v := ?v8_509) rfl (by kernel_rfl) (by kernel_rfl) (by kernel_rfl) (fun _ _ _ h => h) (Or.inl ⟨by rfl, ?y8_509⟩) hS ?r8_509
      case y8_509 =>
        rintro W hH
        have hPW := hP9.below hH hP9.lt
        have hQW := hQ9.below hH hQ9.lt
        have hRW := hR9.below hH hR9.lt
        have p0 : W.cell? ⟨w.heap.size, 0, none⟩ = some (.int .i64 p.fn) := hPW.cell 0
        have p1 : W.cell? ⟨w.heap.size, 1, none⟩ = some (.int .i64 p.addr) := hPW.cell 1
        have p2 : W.cell? ⟨w.heap.size, 2, none⟩ = some (.int .i64 p.count) := hPW.cell 2
        have p3 : W.cell? ⟨w.heap.size, 3, none⟩ = some (.int .i64 p.to) := hPW.cell 3
        have p4 : W.cell? ⟨w.heap.size, 4, none⟩ = some (.slice A2 n2 c2) := hPW.cell 4
        have p5 : W.cell? ⟨w.heap.size, 5, none⟩ = some (.slice A3 n3 c3) := hPW.cell 5
        have q0 : W.cell? ⟨w.heap.size + 1, 0, none⟩ = some (.int .i64 q.fn) := hQW.cell 0
        have q1 : W.cell? ⟨w.heap.size + 1, 1, none⟩ = some (.int .i64 q.addr) := hQW.cell 1
        have q2 : W.cell? ⟨w.heap.size + 1, 2, none⟩ = some (.int .i64 q.count) := hQW.cell 2
        have q3 : W.cell? ⟨w.heap.size + 1, 3, none⟩ = some (.int .i64 q.to) := hQW.cell 3
        have q4 : W.cell? ⟨w.heap.size + 1, 4, none⟩ = some (.slice A4 n4 c4) := hQW.cell 4
        have q5 : W.cell? ⟨w.heap.size + 1, 5, none⟩ = some (.slice A5 n5 c5) := hQW.cell 5
        have r0 : W.cell? ⟨wr.heap.size, 0, none⟩ = some (.int .u8 (128 + f1)) := hRW.cell 0
        have r1 : W.cell? ⟨wr.heap.size, 1, none⟩ = some (.int .u8 f2) := hRW.cell 1
        clear hPW hQW hRW
        go_simp
        with_reducible rfl
      simp only [Act.put]
      try simp only [List.getElem_toArray, List.getElem_cons_succ, List.getElem_cons_zero]
      try simp only [List.setIfInBounds_toArray, List.set_cons_succ, List.set_cons_zero]
      refine wpAnyH_take (i := 9) (v := ?v9_510) rfl (by kernel_rfl) (by kernel_rfl) (by kernel_rfl) (fun _ _ _ h => h) (Or.inl ⟨by rfl, ?y9_510⟩) hS ?r9_510
      case y9_510 =>
        rintro W hH
        have hPW := hP9.below hH hP9.lt
        have hQW := hQ9.below hH hQ9.lt
        have hRW := hR9.below hH hR9.lt
        have p0 : W.cell? ⟨w.heap.size, 0, none⟩ = some (.int .i64 p.fn) := hPW.cell 0
        have p1 : W.cell? ⟨w.heap.size, 1, none⟩ = some (.int .i64 p.addr) := hPW.cell 1
        have p2 : W.cell? ⟨w.heap.size, 2, none⟩ = some (.int .i64 p.count) := hPW.cell 2
        have p3 : W.cell? ⟨w.heap.size, 3, none⟩ = some (.int .i64 p.to) := hPW.cell 3
        have p4 : W.cell? ⟨w.heap.size, 4, none⟩ = some (.slice A2 n2 c2) := hPW.cell 4
        have p5 : W.cell? ⟨w.heap.size, 5, none⟩ = some (.slice A3 n3 c3) := hPW.cell 5
        have q0 : W.cell? ⟨w.heap.size + 1, 0, none⟩ = some (.int .i64 q.fn) := hQW.cell 0
        have q1 : W.cell? ⟨w.heap.size + 1, 1, none⟩ = some (.int .i64 q.addr) := hQW.cell 1
        have q2 : W.cell? ⟨w.heap.size + 1, 2, none⟩ = some (.int .i64 q.count) := hQW.cell 2
        have q3 : W.cell? ⟨w.heap.size + 1, 3, none⟩ = some (.int .i64 q.to) := hQW.cell 3
        have q4 : W.cell? ⟨w.heap.size + 1, 4, none⟩ = some (.slice A4 n4 c4) := hQW.cell 4
        have q5 : W.cell? ⟨w.heap.size + 1, 5, none⟩ = some (.slice A5 n5 c5) := hQW.cell 5
        have r0 : W.cell? ⟨wr.heap.size, 0, none⟩ = some (.int .u8 (128 + f1)) := hRW.cell 0
        have r1 : W.cell? ⟨wr.heap.size, 1, none⟩ = some (.int .u8 f2) := hRW.cell 1
        clear hPW hQW hRW
        go_simp
        with_reducible rfl
      simp only [Act.put]
      try simp only [List.getElem_toArray, List.getElem_cons_succ, List.getElem_cons_zero]
      try simp only [List.setIfInBounds_toArray, List.set_cons_succ, List.set_cons_zero]
      refine wpAnyH_take (i := 10) (v := ?v10_511) rfl (by kernel_rfl) (by kernel_rfl) (by kernel_rfl) (fun _ _ _ h => h) (Or.inl ⟨by rfl, ?y10_511⟩) hS ?r10_511
      case y10_511 =>
        rintro W hH
        have hPW := hP9.below hH hP9.lt
        have hQW := hQ9.below hH hQ9.lt
        have hRW := hR9.below hH hR9.lt
        have p0 : W.cell? ⟨w.heap.size, 0, none⟩ = some (.int .i64 p.fn) := hPW.cell 0
        have p1 : W.cell? ⟨w.heap.size, 1, none⟩ = some (.int .i64 p.addr) := hPW.cell 1
        have p2 : W.cell? ⟨w.heap.size, 2, none⟩ = some (.int .i64 p.count) := hPW.cell 2
        have p3 : W.cell? ⟨w.heap.size, 3, none⟩ = some (.int .i64 p.to) := hPW.cell 3
        have p4 : W.cell? ⟨w.heap.size, 4, none⟩ = some (.slice A2 n2 c2) := hPW.cell 4
        have p5 : W.cell? ⟨w.heap.size, 5, none⟩ = some (.slice A3 n3 c3) := hPW.cell 5
        have q0 : W.cell? ⟨w.heap.size + 1, 0, none⟩ = some (.int .i64 q.fn) := hQW.cell 0
        have q1 : W.cell? ⟨w.heap.size + 1, 1, none⟩ = some (.int .i64 q.addr) := hQW.cell 1
        have q2 : W.cell? ⟨w.heap.size + 1, 2, none⟩ = some (.int .i64 q.count) := hQW.cell 2
        have q3 : W.cell? ⟨w.heap.size + 1, 3, none⟩ = some (.int .i64 q.to) := hQW.cell 3
        have q4 : W.cell? ⟨w.heap.size + 1, 4, none⟩ = some (.slice A4 n4 c4) := hQW.cell 4
        have q5 : W.cell? ⟨w.heap.size + 1, 5, none⟩ = some (.slice A5 n5 c5) := hQW.cell 5
        have r0 : W.cell? ⟨wr.heap.size, 0, none⟩ = some (.int .u8 (128 + f1)) := hRW.cell 0
        have r1 : W.cell? ⟨wr.heap.size, 1, none⟩ = some (.int .u8 f2) := hRW.cell 1
        clear hPW hQW hRW
        go_simp
        with_reducible rfl
      simp only [Act.put]
      try simp only [List.getElem_toArray, List.getElem_cons_succ, List.getElem_cons_zero]
      try simp only [List.setIfInBounds_toArray, List.set_cons_succ, List.set_cons_zero]
      refine wpAnyH_take (i := 11) (v := ?v11_512) rfl (by kernel_rfl) (by kernel_rfl) (by kernel_rfl) (fun _ _ _ h => h) (Or.inl ⟨by rfl, ?y11_512⟩) hS ?r11_512
      case y11_512 =>
        rintro W hH
        have hPW := hP9.below hH hP9.lt
        have hQW := hQ9.below hH hQ9.lt
        have hRW := hR9.below hH hR9.lt
        have p0 : W.cell? ⟨w.heap.size, 0, none⟩ = some (.int .i64 p.fn) := hPW.cell 0
        have p1 : W.cell? ⟨w.heap.size, 1, none⟩ = some (.int .i64 p.addr) := hPW.cell 1
        have p2 : W.cell? ⟨w.heap.size, 2, none⟩ = some (.int .i64 p.count) := hPW.cell 2
        have p3 : W.cell? ⟨w.heap.size, 3, none⟩ = some (.int .i64 p.to) := hPW.cell 3
        have p4 : W.cell? ⟨w.heap.size, 4, none⟩ = some (.slice A2 n2 c2) := hPW.cell 4
        have p5 : W.cell? ⟨w.heap.size, 5, none⟩ = some (.slice A3 n3 c3) := hPW.cell 5
        have q0 : W.cell? ⟨w.heap.size + 1, 0, none⟩ = some (.int .i64 q.fn) := hQW.cell 0
        have q1 : W.cell? ⟨w.heap.size + 1, 1, none⟩ = some (.int .i64 q.addr) := hQW.cell 1
        have q2 : W.cell? ⟨w.heap.size + 1, 2, none⟩ = some (.int .i64 q.count) := hQW.cell 2
        have q3 : W.cell? ⟨w.heap.size + 1, 3, none⟩ = some (.int .i64 q.to) := hQW.cell 3
        have q4 : W.cell? ⟨w.heap.size + 1, 4, none⟩ = some (.slice A4 n4 c4) := hQW.cell 4
        have q5 : W.cell? ⟨w.heap.size + 1, 5, none⟩ = some (.slice A5 n5 c5) := hQW.cell 5
        have r0 : W.cell? ⟨wr.heap.size, 0, none⟩ = some (.int .u8 (128 + f1)) := hRW.cell 0
        have r1 : W.cell? ⟨wr.heap.size, 1, none⟩ = some (.int .u8 f2) := hRW.cell 1
        clear hPW hQW hRW
        go_simp
        with_reducible rfl
      simp only [Act.put]
      try simp only [List.getElem_toArray, List.getElem_cons_succ, List.getElem_cons_zero]
      try simp only [List.setIfInBounds_toArray, List.set_cons_succ, List.set_cons_zero]
      refine wpAnyH_take (i := 12) (v := ?v12_513) rfl (by kernel_rfl) (by kernel_rfl) (by kernel_rfl) (fun _ _ _ h => h) (Or.inl ⟨by rfl, ?y12_513⟩) hS ?r12_513
      case y12_513 =>
        rintro W hH
        have hPW := hP9.below hH hP9.lt
        have hQW := hQ9.below hH hQ9.lt
        have hRW := hR9.below hH hR9.lt
        have p0 : W.cell? ⟨w.heap.size, 0, none⟩ = some (.int .i64 p.fn) := hPW.cell 0
        have p1 : W.cell? ⟨w.heap.size, 1, none⟩ = some (.int .i64 p.addr) := hPW.cell 1
        have p2 : W.cell? ⟨w.heap.size, 2, none⟩ = some (.int .i64 p.count) := hPW.cell 2
        have p3 : W.cell? ⟨w.heap.size, 3, none⟩ = some (.int .i64 p.to) := hPW.cell 3
        have p4 : W.cell? ⟨w.heap.size, 4, none⟩ = some (.slice A2 n2 c2) := hPW.cell 4
        have p5 : W.cell? ⟨w.heap.size, 5, none⟩ = some (.slice A3 n3 c3) := hPW.cell 5
        have q0 : W.cell? ⟨w.heap.size + 1, 0, none⟩ = some (.int .i64 q.fn) := hQW.cell 0
        have q1 : W.cell? ⟨w.heap.size + 1, 1, none⟩ = some (.int .i64 q.addr) := hQW.cell 1
        have q2 : W.cell? ⟨w.heap.size + 1, 2, none⟩ = some (.int .i64 q.count) := hQW.cell 2
        have q3 : W.cell? ⟨w.heap.size + 1, 3, none⟩ = some (.int .i64 q.to) := hQW.cell 3
        have q4 : W.cell? ⟨w.heap.size + 1, 4, none⟩ = some (.slice A4 n4 c4) := hQW.cell 4
        have q5 : W.cell? ⟨w.heap.size + 1, 5, none⟩ = some (.slice A5 n5 c5) := hQW.cell 5
        have r0 : W.cell? ⟨wr.heap.size, 0, none⟩ = some (.int .u8 (128 + f1)) := hRW.cell 0
        have r1 : W.cell? ⟨wr.heap.size, 1, none⟩ = some (.int .u8 f2) := hRW.cell 1
        clear hPW hQW hRW
        go_simp
        with_reducible rfl
      simp only [Act.put]
      try simp only [List.getElem_toArray, List.getElem_cons_succ, List.getElem_cons_zero]
      try simp only [List.setIfInBounds_toArray, List.set_cons_succ, List.set_cons_zero]
      refine wpAnyH_take (i := 13) (v := ?v13_514) rfl (by kernel_rfl) (by kernel_rfl) (by kernel_rfl) (fun _ _ _ h => h) (Or.inl ⟨by rfl, ?y13_514⟩) hS ?r13_514
      case y13_514 =>
        rintro W hH
        have hPW := hP9.below hH hP9.lt
        have hQW := hQ9.below hH hQ9.lt
        have hRW := hR9.below hH hR9.lt
        have p0 : W.cell? ⟨w.heap.size, 0, none⟩ = some (.int .i64 p.fn) := hPW.cell 0
        have p1 : W.cell? ⟨w.heap.size, 1, none⟩ = some (.int .i64 p.addr) := hPW.cell 1
        have p2 : W.cell? ⟨w.heap.size, 2, none⟩ = some (.int .i64 p.count) := hPW.cell 2
        have p3 : W.cell? ⟨w.heap.size, 3, none⟩ = some (.int .i64 p.to) := hPW.cell 3
        have p4 : W.cell? ⟨w.heap.size, 4, none⟩ = some (.slice A2 n2 c2) := hPW.cell 4
        have p5 : W.cell? ⟨w.heap.size, 5, none⟩ = some (.slice A3 n3 c3) := hPW.cell 5
        have q0 : W.cell? ⟨w.heap.size + 1, 0, none⟩ = some (.int .i64 q.fn) := hQW.cell 0
        have q1 : W.cell? ⟨w.heap.size + 1, 1, none⟩ = some (.int .i64 q.addr) := hQW.cell 1
        have q2 : W.cell? ⟨w.heap.size + 1, 2, none⟩ = some (.int .i64 q.count) := hQW.cell 2
        have q3 : W.cell? ⟨w.heap.size + 1, 3, none⟩ = some (.int .i64 q.to) := hQW.cell 3
        have q4 : W.cell? ⟨w.heap.size + 1, 4, none⟩ = some (.slice A4 n4 c4) := hQW.cell 4
        have q5 : W.cell? ⟨w.heap.size + 1, 5, none⟩ = some (.slice A5 n5 c5) := hQW.cell 5
        have r0 : W.cell? ⟨wr.heap.size, 0, none⟩ = some (.int .u8 (128 + f1)) := hRW.cell 0
        have r1 : W.cell? ⟨wr.heap.size, 1, none⟩ = some (.int .u8 f2) := hRW.cell 1
        clear hPW hQW hRW
        go_simp
        with_reducible rfl
      simp only [Act.put]
      try simp only [List.getElem_toArray, List.getElem_cons_succ, List.getElem_cons_zero]
      try simp only [List.setIfInBounds_toArray, List.set_cons_succ, List.set_cons_zero]
      refine wpAnyH_take (i := 14) (v := ?v14_515) rfl (by kernel_rfl) (by kernel_rfl) (by kernel_rfl) (fun _ _ _ h => h) (Or.inl ⟨by rfl, ?y14_515⟩) hS ?r14_515
      case y14_515 =>
        rintro W hH
        have hPW := hP9.below hH hP9.lt
        have hQW := hQ9.below hH hQ9.lt
        have hRW := hR9.below hH hR9.lt
        have p0 : W.cell? ⟨w.heap.size, 0, none⟩ = some (.int .i64 p.fn) := hPW.cell 0
        have p1 : W.cell? ⟨w.heap.size, 1, none⟩ = some (.int .i64 p.addr) := hPW.cell 1
        have p2 : W.cell? ⟨w.heap.size, 2, none⟩ = some (.int .i64 p.count) := hPW.cell 2
        have p3 : W.cell? ⟨w.heap.size, 3, none⟩ = some (.int .i64 p.to) := hPW.cell 3
        have p4 : W.cell? ⟨w.heap.size, 4, none⟩ = some (.slice A2 n2 c2) := hPW.cell 4
        have p5 : W.cell? ⟨w.heap.size, 5, none⟩ = some (.slice A3 n3 c3) := hPW.cell 5
        have q0 : W.cell? ⟨w.heap.size + 1, 0, none⟩ = some (.int .i64 q.fn) := hQW.cell 0
        have q1 : W.cell? ⟨w.heap.size + 1, 1, none⟩ = some (.int .i64 q.addr) := hQW.cell 1
        have q2 : W.cell? ⟨w.heap.size + 1, 2, none⟩ = some (.int .i64 q.count) := hQW.cell 2
        have q3 : W.cell? ⟨w.heap.size + 1, 3, none⟩ = some (.int .i64 q.to) := hQW.cell 3
        have q4 : W.cell? ⟨w.heap.size + 1, 4, none⟩ = some (.slice A4 n4 c4) := hQW.cell 4
        have q5 : W.cell? ⟨w.heap.size + 1, 5, none⟩ = some (.slice A5 n5 c5) := hQW.cell 5
        have r0 : W.cell? ⟨wr.heap.size, 0, none⟩ = some (.int .u8 (128 + f1)) := hRW.cell 0
        have r1 : W.cell? ⟨wr.heap.size, 1, none⟩ = some (.int .u8 f2) := hRW.cell 1
        clear hPW hQW hRW
        go_simp
        with_reducible rfl
      simp only [Act.put]
      try simp only [List.getElem_toArray, List.getElem_cons_succ, List.getElem_cons_zero]
      try simp only [List.setIfInBounds_toArray, List.set_cons_succ, List.set_cons_zero]
      refine wpAnyH_take (i := 15) (v := ?v15_516) rfl (by kernel_rfl) (by kernel_rfl) (by kernel_rfl) (fun _ _ _ h => h) (Or.inl ⟨by rfl, ?y15_516⟩) hS ?r15_516
      case y15_516 =>
        rintro W hH
        have hPW := hP9.below hH hP9.lt
        have hQW := hQ9.below hH hQ9.lt
        have hRW := hR9.below hH hR9.lt
        have p0 : W.cell? ⟨w.heap.size, 0, none⟩ = some (.int .i64 p.fn) := hPW.cell 0
        have p1 : W.cell? ⟨w.heap.size, 1, none⟩ = some (.int .i64 p.addr) := hPW.cell 1
        have p2 : W.cell? ⟨w.heap.size, 2, none⟩ = some (.int .i64 p.count) := hPW.cell 2
        have p3 : W.cell? ⟨w.heap.size, 3, none⟩ = some (.int .i64 p.to) := hPW.cell 3
        have p4 : W.cell? ⟨w.heap.size, 4, none⟩ = some (.slice A2 n2 c2) := hPW.cell 4
        have p5 : W.cell? ⟨w.heap.size, 5, none⟩ = some (.slice A3 n3 c3) := hPW.cell 5
        have q0 : W.cell? ⟨w.heap.size + 1, 0, none⟩ = some (.int .i64 q.fn) := hQW.cell 0
        have q1 : W.cell? ⟨w.heap.size + 1, 1, none⟩ = some (.int .i64 q.addr) := hQW.cell 1
        have q2 : W.cell? ⟨w.heap.size + 1, 2, none⟩ = some (.int .i64 q.count) := hQW.cell 2
        have q3 : W.cell? ⟨w.heap.size + 1, 3, none⟩ = some (.int .i64 q.to) := hQW.cell 3
        have q4 : W.cell? ⟨w.heap.size + 1, 4, none⟩ = some (.slice A4 n4 c4) := hQW.cell 4
        have q5 : W.cell? ⟨w.heap.size + 1, 5, none⟩ = some (.slice A5 n5 c5) := hQW.cell 5
        have r0 : W.cell? ⟨wr.heap.size, 0, none⟩ = some (.int .u8 (128 + f1)) := hRW.cell 0
        have r1 : W.cell? ⟨wr.heap.size, 1, none⟩ = some (.int .u8 f2) := hRW.cell 1
        clear hPW hQW hRW
        go_simp
        with_reducible rfl
      simp only [Act.put]
      try simp only [List.getElem_toArray, List.getElem_cons_succ, List.getElem_cons_zero]
      try simp only [List.setIfInBounds_toArray, List.set_cons_succ, List.set_cons_zero]
      refine wpAnyH_take (i := 16) (v := ?v16_517) rfl (by kernel_rfl) (by kernel_rfl) (by kernel_rfl) (fun _ _ _ h => h) (Or.inl ⟨by rfl, ?y16_517⟩) hS ?r16_517
      case y16_517 =>
        rintro W hH
        have hPW := hP9.below hH hP9.lt
        have hQW := hQ9.below hH hQ9.lt
        have hRW := hR9.below hH hR9.lt
        have p0 : W.cell? ⟨w.heap.size, 0, none⟩ = some (.int .i64 p.fn) := hPW.cell 0
        have p1 : W.cell? ⟨w.heap.size, 1, none⟩ = some (.int .i64 p.addr) := hPW.cell 1
        have p2 : W.cell? ⟨w.heap.size, 2, none⟩ = some (.int .i64 p.count) := hPW.cell 2
        have p3 : W.cell? ⟨w.heap.size, 3, none⟩ = some (.int .i64 p.to) := hPW.cell 3
        have p4 : W.cell? ⟨w.heap.size, 4, none⟩ = some (.slice A2 n2 c2) := hPW.cell 4
        have p5 : W.cell? ⟨w.heap.size, 5, none⟩ = some (.slice A3 n3 c3) := hPW.cell 5
        have q0 : W.cell? ⟨w.heap.size + 1, 0, none⟩ = some (.int .i64 q.fn) := hQW.cell 0
        have q1 : W.cell? ⟨w.heap.size + 1, 1, none⟩ = some (.int .i64 q.addr) := hQW.cell 1
        have q2 : W.cell? ⟨w.heap.size + 1, 2, none⟩ = some (.int .i64 q.count) := hQW.cell 2
        have q3 : W.cell? ⟨w.heap.size + 1, 3, none⟩ = some (.int .i64 q.to) := hQW.cell 3
        have q4 : W.cell? ⟨w.heap.size + 1, 4, none⟩ = some (.slice A4 n4 c4) := hQW.cell 4
        have q5 : W.cell? ⟨w.heap.size + 1, 5, none⟩ = some (.slice A5 n5 c5) := hQW.cell 5
        have r0 : W.cell? ⟨wr.heap.size, 0, none⟩ = some (.int .u8 (128 + f1)) := hRW.cell 0
        have r1 : W.cell? ⟨wr.heap.size, 1, none⟩ = some (.int .u8 f2) := hRW.cell 1
        clear hPW hQW hRW
        go_simp
        with_reducible rfl
      simp only [Act.put]
      try simp only [List.getElem_toArray, List.getElem_cons_succ, List.getElem_cons_zero]
      try simp only [List.setIfInBounds_toArray, List.set_cons_succ, List.set_cons_zero]
      refine wpAnyH_take (i := 17) (v := ?v17_518) rfl (by kernel_rfl) (by kernel_rfl) (by kernel_rfl) (fun _ _ _ h => h) (Or.inl ⟨by rfl, ?y17_518⟩) hS ?r17_518
      case y17_518 =>
        rintro W hH
        have hPW := hP9.below hH hP9.lt
        have hQW := hQ9.below hH hQ9.lt
        have hRW := hR9.below hH hR9.lt
        have p0 : W.cell? ⟨w.heap.size, 0, none⟩ = some (.int .i64 p.fn) := hPW.cell 0
        have p1 : W.cell? ⟨w.heap.size, 1, none⟩ = some (.int .i64 p.addr) := hPW.cell 1
        have p2 : W.cell? ⟨w.heap.size, 2, none⟩ = some (.int .i64 p.count) := hPW.cell 2
        have p3 : W.cell? ⟨w.heap.size, 3, none⟩ = some (.int .i64 p.to) := hPW.cell 3
        have p4 : W.cell? ⟨w.heap.size, 4, none⟩ = some (.slice A2 n2 c2) := hPW.cell 4
        have p5 : W.cell? ⟨w.heap.size, 5, none⟩ = some (.slice A3 n3 c3) := hPW.cell 5
        have q0 : W.cell? ⟨w.heap.size + 1, 0, none⟩ = some (.int .i64 q.fn) := hQW.cell 0
        have q1 : W.cell? ⟨w.heap.size + 1, 1, none⟩ = some (.int .i64 q.addr) := hQW.cell 1
        have q2 : W.cell? ⟨w.heap.size + 1, 2, none⟩ = some (.int .i64 q.count) := hQW.cell 2
        have q3 : W.cell? ⟨w.heap.size + 1, 3, none⟩ = some (.int .i64 q.to) := hQW.cell 3
        have q4 : W.cell? ⟨w.heap.size + 1, 4, none⟩ = some (.slice A4 n4 c4) := hQW.cell 4
        have q5 : W.cell? ⟨w.heap.size + 1, 5, none⟩ = some (.slice A5 n5 c5) := hQW.cell 5
        have r0 : W.cell? ⟨wr.heap.size, 0, none⟩ = some (.int .u8 (128 + f1)) := hRW.cell 0
        have r1 : W.cell? ⟨wr.heap.size, 1, none⟩ = some (.int .u8 f2) := hRW.cell 1
        clear hPW hQW hRW
        go_simp
        with_reducible rfl
      simp only [Act.put]
      try simp only [List.getElem_toArray, List.getElem_cons_succ, List.getElem_cons_zero]
      try simp only [List.setIfInBounds_toArray, List.set_cons_succ, List.set_cons_zero]
      refine wpAnyH_take (i := 18) (v := ?v18_519) rfl (by kernel_rfl) (by kernel_rfl) (by kernel_rfl) (fun _ _ _ h => h) (Or.inl ⟨by rfl, ?y18_519⟩) hS ?r18_519
      case y18_519 =>
        rintro W hH
        have hPW := hP9.below hH hP9.lt
        have hQW := hQ9.below hH hQ9.lt
        have hRW := hR9.below hH hR9.lt
        have p0 : W.cell? ⟨w.heap.size, 0, none⟩ = some (.int .i64 p.fn) := hPW.cell 0
        have p1 : W.cell? ⟨w.heap.size, 1, none⟩ = some (.int .i64 p.addr) := hPW.cell 1
        have p2 : W.cell? ⟨w.heap.size, 2, none⟩ = some (.int .i64 p.count) := hPW.cell 2
        have p3 : W.cell? ⟨w.heap.size, 3, none⟩ = some (.int .i64 p.to) := hPW.cell 3
        have p4 : W.cell? ⟨w.heap.size, 4, none⟩ = some (.slice A2 n2 c2) := hPW.cell 4
        have p5 : W.cell? ⟨w.heap.size, 5, none⟩ = some (.slice A3 n3 c3) := hPW.cell 5
        have q0 : W.cell? ⟨w.heap.size + 1, 0, none⟩ = some (.int .i64 q.fn) := hQW.cell 0
        have q1 : W.cell? ⟨w.heap.size + 1, 1, none⟩ = some (.int .i64 q.addr) := hQW.cell 1
        have q2 : W.cell? ⟨w.heap.size + 1, 2, none⟩ = some (.int .i64 q.count) := hQW.cell 2
        have q3 : W.cell? ⟨w.heap.size + 1, 3, none⟩ = some (.int .i64 q.to) := hQW.cell 3
        have q4 : W.cell? ⟨w.heap.size + 1, 4, none⟩ = some (.slice A4 n4 c4) := hQW.cell 4
        have q5 : W.cell? ⟨w.heap.size + 1, 5, none⟩ = some (.slice A5 n5 c5) := hQW.cell 5
        have r0 : W.cell? ⟨wr.heap.size, 0, none⟩ = some (.int .u8 (128 + f1)) := hRW.cell 0
        have r1 : W.cell? ⟨wr.heap.size, 1, none⟩ = some (.int .u8 f2) := hRW.cell 1
        clear hPW hQW hRW
        go_simp
        with_reducible rfl
      simp only [Act.put]
      try simp only [List.getElem_toArray, List.getElem_cons_succ, List.getElem_cons_zero]
      try simp only [List.setIfInBounds_toArray, List.set_cons_succ, List.set_cons_zero]
      refine wpAnyH_take (i := 19) (v := ?v19_520) rfl (by kernel_rfl) (by kernel_rfl) (by kernel_rfl) (fun _ _ _ h => h) (Or.inl ⟨by rfl, ?y19_520⟩) hS ?r19_520
      case y19_520 =>
        rintro W hH
        have hPW := hP9.below hH hP9.lt
        have hQW := hQ9.below hH hQ9.lt
        have hRW := hR9.below hH hR9.lt
        have p0 : W.cell? ⟨w.heap.size, 0, none⟩ = some (.int .i64 p.fn) := hPW.cell 0
        have p1 : W.cell? ⟨w.heap.size, 1, none⟩ = some (.int .i64 p.addr) := hPW.cell 1
        have p2 : W.cell? ⟨w.heap.size, 2, none⟩ = some (.int .i64 p.count) := hPW.cell 2
        have p3 : W.cell? ⟨w.heap.size, 3, none⟩ = some (.int .i64 p.to) := hPW.cell 3
        have p4 : W.cell? ⟨w.heap.size, 4, none⟩ = some (.slice A2 n2 c2) := hPW.cell 4
        have p5 : W.cell? ⟨w.heap.size, 5, none⟩ = some (.slice A3 n3 c3) := hPW.cell 5
        have q0 : W.cell? ⟨w.heap.size + 1, 0, none⟩ = some (.int .i64 q.fn) := hQW.cell 0
        have q1 : W.cell? ⟨w.heap.size + 1, 1, none⟩ = some (.int .i64 q.addr) := hQW.cell 1
        have q2 : W.cell? ⟨w.heap.size + 1, 2, none⟩ = some (.int .i64 q.count) := hQW.cell 2
        have q3 : W.cell? ⟨w.heap.size + 1, 3, none⟩ = some (.int .i64 q.to) := hQW.cell 3
        have q4 : W.cell? ⟨w.heap.size + 1, 4, none⟩ = some (.slice A4 n4 c4) := hQW.cell 4
        have q5 : W.cell? ⟨w.heap.size + 1, 5, none⟩ = some (.slice A5 n5 c5) := hQW.cell 5
        have r0 : W.cell? ⟨wr.heap.size, 0, none⟩ = some (.int .u8 (128 + f1)) := hRW.cell 0
        have r1 : W.cell? ⟨wr.heap.size, 1, none⟩ = some (.int .u8 f2) := hRW.cell 1
        clear hPW hQW hRW
        go_simp
        with_reducible rfl
      simp only [Act.put]
      try simp only [List.getElem_toArray, List.getElem_cons_succ, List.getElem_cons_zero]
      try simp only [List.setIfInBounds_toArray, List.set_cons_succ, List.set_cons_zero]
      refine wpAnyH_take (i := 20) (v := ?v20_521) rfl (by kernel_rfl) (by kernel_rfl) (by kernel_rfl) (fun _ _ _ h => h) (Or.inl ⟨by rfl, ?y20_521⟩) hS ?r20_521
      case y20_521 =>
        rintro W hH
        have hPW := hP9.below hH hP9.lt
        have hQW := hQ9.below hH hQ9.lt
        have hRW := hR9.below hH hR9.lt
        have p0 : W.cell? ⟨w.heap.size, 0, none⟩ = some (.int .i64 p.fn) := hPW.cell 0
        have p1 : W.cell? ⟨w.heap.size, 1, none⟩ = some (.int .i64 p.addr) := hPW.cell 1
        have p2 : W.cell? ⟨w.heap.size, 2, none⟩ = some (.int .i64 p.count) := hPW.cell 2
        have p3 : W.cell? ⟨w.heap.size, 3, none⟩ = some (.int .i64 p.to) := hPW.cell 3
        have p4 : W.cell? ⟨w.heap.size, 4, none⟩ = some (.slice A2 n2 c2) := hPW.cell 4
        have p5 : W.cell? ⟨w.heap.size, 5, none⟩ = some (.slice A3 n3 c3) := hPW.cell 5
        have q0 : W.cell? ⟨w.heap.size + 1, 0, none⟩ = some (.int .i64 q.fn) := hQW.cell 0
        have q1 : W.cell? ⟨w.heap.size + 1, 1, none⟩ = some (.int .i64 q.addr) := hQW.cell 1
        have q2 : W.cell? ⟨w.heap.size + 1, 2, none⟩ = some (.int .i64 q.count) := hQW.cell 2
        have q3 : W.cell? ⟨w.heap.size + 1, 3, none⟩ = some (.int .i64 q.to) := hQW.cell 3
        have q4 : W.cell? ⟨w.heap.size + 1, 4, none⟩ = some (.slice A4 n4 c4) := hQW.cell 4
        have q5 : W.cell? ⟨w.heap.size + 1, 5, none⟩ = some (.slice A5 n5 c5) := hQW.cell 5
        have r0 : W.cell? ⟨wr.heap.size, 0, none⟩ = some (.int .u8 (128 + f1)) := hRW.cell 0
        have r1 : W.cell? ⟨wr.heap.size, 1, none⟩ = some (.int .u8 f2) := hRW.cell 1
        clear hPW hQW hRW
        go_simp
        with_reducible rfl
      simp only [Act.put]
      try simp only [List.getElem_toArray, List.getElem_cons_succ, List.getElem_cons_zero]
      try simp only [List.setIfInBounds_toArray, List.set_cons_succ, List.set_cons_zero]
      refine wpAnyH_take (i := 21) (v := ?v21_522) rfl (by kernel_rfl) (by kernel_rfl) (by kernel_rfl) (fun _ _ _ h => h) (Or.inl ⟨by rfl, ?y21_522⟩) hS ?r21_522
      case y21_522 =>
        rintro W hH
        have hPW := hP9.below hH hP9.lt
        have hQW := hQ9.below hH hQ9.lt
        have hRW := hR9.below hH hR9.lt
        have p0 : W.cell? ⟨w.heap.size, 0, none⟩ = some (.int .i64 p.fn) := hPW.cell 0
        have p1 : W.cell? ⟨w.heap.size, 1, none⟩ = some (.int .i64 p.addr) := hPW.cell 1
        have p2 : W.cell? ⟨w.heap.size, 2, none⟩ = some (.int .i64 p.count) := hPW.cell 2
        have p3 : W.cell? ⟨w.heap.size, 3, none⟩ = some (.int .i64 p.to) := hPW.cell 3
        have p4 : W.cell? ⟨w.heap.size, 4, none⟩ = some (.slice A2 n2 c2) := hPW.cell 4
        have p5 : W.cell? ⟨w.heap.size, 5, none⟩ = some (.slice A3 n3 c3) := hPW.cell 5
        have q0 : W.cell? ⟨w.heap.size + 1, 0, none⟩ = some (.int .i64 q.fn) := hQW.cell 0
        have q1 : W.cell? ⟨w.heap.size + 1, 1, none⟩ = some (.int .i64 q.addr) := hQW.cell 1
        have q2 : W.cell? ⟨w.heap.size + 1, 2, none⟩ = some (.int .i64 q.count) := hQW.cell 2
        have q3 : W.cell? ⟨w.heap.size + 1, 3, none⟩ = some (.int .i64 q.to) := hQW.cell 3
        have q4 : W.cell? ⟨w.heap.size + 1, 4, none⟩ = some (.slice A4 n4 c4) := hQW.cell 4
        have q5 : W.cell? ⟨w.heap.size + 1, 5, none⟩ = some (.slice A5 n5 c5) := hQW.cell 5
        have r0 : W.cell? ⟨wr.heap.size, 0, none⟩ = some (.int .u8 (128 + f1)) := hRW.cell 0
        have r1 : W.cell? ⟨wr.heap.size, 1, none⟩ = some (.int .u8 f2) := hRW.cell 1
        clear hPW hQW hRW
        go_simp
        with_reducible rfl
      simp only [Act.put]
      try simp only [List.getElem_toArray, List.getElem_cons_succ, List.getElem_cons_zero]
      try simp only [List.setIfInBounds_toArray, List.set_cons_succ, List.set_cons_zero]
      refine wpAnyH_take (i := 22) (v := ?v22_523) rfl (by kernel_rfl) (by kernel_rfl) (by kernel_rfl) (fun _ _ _ h => h) (Or.inl ⟨by rfl, ?y22_523⟩) hS ?r22_523
      case y22_523 =>
        rintro W hH
        have hPW := hP9.below hH hP9.lt
        have hQW := hQ9.below hH hQ9.lt
        have hRW := hR9.below hH hR9.lt
        have p0 : W.cell? ⟨w.heap.size, 0, none⟩ = some (.int .i64 p.fn) := hPW.cell 0
        have p1 : W.cell? ⟨w.heap.size, 1, none⟩ = some (.int .i64 p.addr) := hPW.cell 1
        have p2 : W.cell? ⟨w.heap.size, 2, none⟩ = some (.int .i64 p.count) := hPW.cell 2
        have p3 : W.cell? ⟨w.heap.size, 3, none⟩ = some (.int .i64 p.to) := hPW.cell 3
        have p4 : W.cell? ⟨w.heap.size, 4, none⟩ = some (.slice A2 n2 c2) := hPW.cell 4
        have p5 : W.cell? ⟨w.heap.size, 5, none⟩ = some (.slice A3 n3 c3) := hPW.cell 5
        have q0 : W.cell? ⟨w.heap.size + 1, 0, none⟩ = some (.int .i64 q.fn) := hQW.cell 0
        have q1 : W.cell? ⟨w.heap.size + 1, 1, none⟩ = some (.int .i64 q.addr) := hQW.cell 1
        have q2 : W.cell? ⟨w.heap.size + 1, 2, none⟩ = some (.int .i64 q.count) := hQW.cell 2
        have q3 : W.cell? ⟨w.heap.size + 1, 3, none⟩ = some (.int .i64 q.to) := hQW.cell 3
        have q4 : W.cell? ⟨w.heap.size + 1, 4, none⟩ = some (.slice A4 n4 c4) := hQW.cell 4
        have q5 : W.cell? ⟨w.heap.size + 1, 5, none⟩ = some (.slice A5 n5 c5) := hQW.cell 5
        have r0 : W.cell? ⟨wr.heap.size, 0, none⟩ = some (.int .u8 (128 + f1)) := hRW.cell 0
        have r1 : W.cell? ⟨wr.heap.size, 1, none⟩ = some (.int .u8 f2) := hRW.cell 1
        clear hPW hQW hRW
        go_simp
        with_reducible rfl
      simp only [Act.put]
      try simp only [List.getElem_toArray, List.getElem_cons_succ, List.getElem_cons_zero]
      try simp only [List.setIfInBounds_toArray, List.set_cons_succ, List.set_cons_zero]
      refine wpAnyH_take (i := 23) (v := ?v23_524) rfl (by kernel_rfl) (by kernel_rfl) (by kernel_rfl) (fun _ _ _ h => h) (Or.inl ⟨by rfl, ?y23_524⟩) hS ?r23_524
      case y23_524 =>
        rintro W hH
        have hPW := hP9.below hH hP9.lt
        have hQW := hQ9.below hH hQ9.lt
        have hRW := hR9.below hH hR9.lt
        have p0 : W.cell? ⟨w.heap.size, 0, none⟩ = some (.int .i64 p.fn) := hPW.cell 0
        have p1 : W.cell? ⟨w.heap.size, 1, none⟩ = some (.int .i64 p.addr) := hPW.cell 1
        have p2 : W.cell? ⟨w.heap.size, 2, none⟩ = some (.int .i64 p.count) := hPW.cell 2
        have p3 : W.cell? ⟨w.heap.size, 3, none⟩ = some (.int .i64 p.to) := hPW.cell 3
        have p4 : W.cell? ⟨w.heap.size, 4, none⟩ = some (.slice A2 n2 c2) := hPW.cell 4
        have p5 : W.cell? ⟨w.heap.size, 5, none⟩ = some (.slice A3 n3 c3) := hPW.cell 5
        have q0 : W.cell? ⟨w.heap.size + 1, 0, none⟩ = some (.int .i64 q.fn) := hQW.cell 0
        have q1 : W.cell? ⟨w.heap.size + 1, 1, none⟩ = some (.int .i64 q.addr) := hQW.cell 1
        have q2 : W.cell? ⟨w.heap.size + 1, 2, none⟩ = some (.int .i64 q.count) := hQW.cell 2
        have q3 : W.cell? ⟨w.heap.size + 1, 3, none⟩ = some (.int .i64 q.to) := hQW.cell 3
        have q4 : W.cell? ⟨w.heap.size + 1, 4, none⟩ = some (.slice A4 n4 c4) := hQW.cell 4
        have q5 : W.cell? ⟨w.heap.size + 1, 5, none⟩ = some (.slice A5 n5 c5) := hQW.cell 5
        have r0 : W.cell? ⟨wr.heap.size, 0, none⟩ = some (.int .u8 (128 + f1)) := hRW.cell 0
        have r1 : W.cell? ⟨wr.heap.size, 1, none⟩ = some (.int .u8 f2) := hRW.cell 1
        clear hPW hQW hRW
        go_simp
        with_reducible rfl
      simp only [Act.put]
      try simp only [List.getElem_toArray, List.getElem_cons_succ, List.getElem_cons_zero]
      try simp only [List.setIfInBounds_toArray, List.set_cons_succ, List.set_cons_zero]
      refine wpAnyH_take (i := 24) (v := ?v24_525) rfl (by kernel_rfl) (by kernel_rfl) (by kernel_rfl) (fun _ _ _ h => h) (Or.inl ⟨by rfl, ?y24_525⟩) hS ?r24_525
      case y24_525 =>
        rintro W hH
        have hPW := hP9.below hH hP9.lt
        have hQW := hQ9.below hH hQ9.lt
        have hRW := hR9.below hH hR9.lt
        have p0 : W.cell? ⟨w.heap.size, 0, none⟩ = some (.int .i64 p.fn) := hPW.cell 0
        have p1 : W.cell? ⟨w.heap.size, 1, none⟩ = some (.int .i64 p.addr) := hPW.cell 1
        have p2 : W.cell? ⟨w.heap.size, 2, none⟩ = some (.int .i64 p.count) := hPW.cell 2
        have p3 : W.cell? ⟨w.heap.size, 3, none⟩ = some (.int .i64 p.to) := hPW.cell 3
        have p4 : W.cell? ⟨w.heap.size, 4, none⟩ = some (.slice A2 n2 c2) := hPW.cell 4
        have p5 : W.cell? ⟨w.heap.size, 5, none⟩ = some (.slice A3 n3 c3) := hPW.cell 5
        have q0 : W.cell? ⟨w.heap.size + 1, 0, none⟩ = some (.int .i64 q.fn) := hQW.cell 0
        have q1 : W.cell? ⟨w.heap.size + 1, 1, none⟩ = some (.int .i64 q.addr) := hQW.cell 1
        have q2 : W.cell? ⟨w.heap.size + 1, 2, none⟩ = some (.int .i64 q.count) := hQW.cell 2
        have q3 : W.cell? ⟨w.heap.size + 1, 3, none⟩ = some (.int .i64 q.to) := hQW.cell 3
        have q4 : W.cell? ⟨w.heap.size + 1, 4, none⟩ = some (.slice A4 n4 c4) := hQW.cell 4
        have q5 : W.cell? ⟨w.heap.size + 1, 5, none⟩ = some (.slice A5 n5 c5) := hQW.cell 5
        have r0 : W.cell? ⟨wr.heap.size, 0, none⟩ = some (.int .u8 (128 + f1)) := hRW.cell 0
        have r1 : W.cell? ⟨wr.heap.size, 1, none⟩ = some (.int .u8 f2) := hRW.cell 1
        clear hPW hQW hRW
        go_simp
        with_reducible rfl
      simp only [Act.put]
      try simp only [List.getElem_toArray, List.getElem_cons_succ, List.getElem_cons_zero]
      try simp only [List.setIfInBounds_toArray, List.set_cons_succ, List.set_cons_zero]
      refine wpAnyH_take (i := 25) (v := ?v25_526) rfl (by kernel_rfl) (by kernel_rfl) (by kernel_rfl) (fun _ _ _ h => h) (Or.inl ⟨by rfl, ?y25_526⟩) hS ?r25_526
      case y25_526 =>
        rintro W hH
        have hPW := hP9.below hH hP9.lt
        have hQW := hQ9.below hH hQ9.lt
        have hRW := hR9.below hH hR9.lt
        have p0 : W.cell? ⟨w.heap.size, 0, none⟩ = some (.int .i64 p.fn) := hPW.cell 0
        have p1 : W.cell? ⟨w.heap.size, 1, none⟩ = some (.int .i64 p.addr) := hPW.cell 1
        have p2 : W.cell? ⟨w.heap.size, 2, none⟩ = some (.int .i64 p.count) := hPW.cell 2
        have p3 : W.cell? ⟨w.heap.size, 3, none⟩ = some (.int .i64 p.to) := hPW.cell 3
        have p4 : W.cell? ⟨w.heap.size, 4, none⟩ = some (.slice A2 n2 c2) := hPW.cell 4
        have p5 : W.cell? ⟨w.heap.size, 5, none⟩ = some (.slice A3 n3 c3) := hPW.cell 5
        have q0 : W.cell? ⟨w.heap.size + 1, 0, none⟩ = some (.int .i64 q.fn) := hQW.cell 0
        have q1 : W.cell? ⟨w.heap.size + 1, 1, none⟩ = some (.int .i64 q.addr) := hQW.cell 1
        have q2 : W.cell? ⟨w.heap.size + 1, 2, none⟩ = some (.int .i64 q.count) := hQW.cell 2
        have q3 : W.cell? ⟨w.heap.size + 1, 3, none⟩ = some (.int .i64 q.to) := hQW.cell 3
        have q4 : W.cell? ⟨w.heap.size + 1, 4, none⟩ = some (.slice A4 n4 c4) := hQW.cell 4
        have q5 : W.cell? ⟨w.heap.size + 1, 5, none⟩ = some (.slice A5 n5 c5) := hQW.cell 5
        have r0 : W.cell? ⟨wr.heap.size, 0, none⟩ = some (.int .u8 (128 + f1)) := hRW.cell 0
        have r1 : W.cell? ⟨wr.heap.size, 1, none⟩ = some (.int .u8 f2) := hRW.cell 1
        clear hPW hQW hRW
        go_simp
        with_reducible rfl
      simp only [Act.put]
      try simp only [List.getElem_toArray, List.getElem_cons_succ, List.getElem_cons_zero]
      try simp only [List.setIfInBounds_toArray, List.set_cons_succ, List.set_cons_zero]
      refine wpAnyH_take (i := 26) (v := ?v26_527) rfl (by kernel_rfl) (by kernel_rfl) (by kernel_rfl) (fun _ _ _ h => h) (Or.inl ⟨by rfl, ?y26_527⟩) hS ?r26_527
      case y26_527 =>
        rintro W hH
        have hPW := hP9.below hH hP9.lt
        have hQW := hQ9.below hH hQ9.lt
        have hRW := hR9.below hH hR9.lt
        have p0 : W.cell? ⟨w.heap.size, 0, none⟩ = some (.int .i64 p.fn) := hPW.cell 0
        have p1 : W.cell? ⟨w.heap.size, 1, none⟩ = some (.int .i64 p.addr) := hPW.cell 1
        have p2 : W.cell? ⟨w.heap.size, 2, none⟩ = some (.int .i64 p.count) := hPW.cell 2
        have p3 : W.cell? ⟨w.heap.size, 3, none⟩ = some (.int .i64 p.to) := hPW.cell 3
        have p4 : W.cell? ⟨w.heap.size, 4, none⟩ = some (.slice A2 n2 c2) := hPW.cell 4
        have p5 : W.cell? ⟨w.heap.size, 5, none⟩ = some (.slice A3 n3 c3) := hPW.cell 5
        have q0 : W.cell? ⟨w.heap.size + 1, 0, none⟩ = some (.int .i64 q.fn) := hQW.cell 0
        have q1 : W.cell? ⟨w.heap.size + 1, 1, none⟩ = some (.int .i64 q.addr) := hQW.cell 1
        have q2 : W.cell? ⟨w.heap.size + 1, 2, none⟩ = some (.int .i64 q.count) := hQW.cell 2
        have q3 : W.cell? ⟨w.heap.size + 1, 3, none⟩ = some (.int .i64 q.to) := hQW.cell 3
        have q4 : W.cell? ⟨w.heap.size + 1, 4, none⟩ = some (.slice A4 n4 c4) := hQW.cell 4
        have q5 : W.cell? ⟨w.heap.size + 1, 5, none⟩ = some (.slice A5 n5 c5) := hQW.cell 5
        have r0 : W.cell? ⟨wr.heap.size, 0, none⟩ = some (.int .u8 (128 + f1)) := hRW.cell 0
        have r1 : W.cell? ⟨wr.heap.size, 1, none⟩ = some (.int .u8 f2) := hRW.cell 1
        clear hPW hQW hRW
        go_simp
        with_reducible rfl
      simp only [Act.put]
      try simp only [List.getElem_toArray, List.getElem_cons_succ, List.getElem_cons_zero]
      try simp only [List.setIfInBounds_toArray, List.set_cons_succ, List.set_cons_zero]
      refine wpAnyH_take (i := 27) (v := ?v27_528) rfl (by kernel_rfl) (by kernel_rfl) (by kernel_rfl) (fun _ _ _ h => h) (Or.inl ⟨by rfl, ?y27_528⟩) hS ?r27_528
      case y27_528 =>
        rintro W hH
        have hPW := hP9.below hH hP9.lt
        have hQW := hQ9.below hH hQ9.lt
        have hRW := hR9.below hH hR9.lt
        have p0 : W.cell? ⟨w.heap.size, 0, none⟩ = some (.int .i64 p.fn) := hPW.cell 0
        have p1 : W.cell? ⟨w.heap.size, 1, none⟩ = some (.int .i64 p.addr) := hPW.cell 1
        have p2 : W.cell? ⟨w.heap.size, 2, none⟩ = some (.int .i64 p.count) := hPW.cell 2
        have p3 : W.cell? ⟨w.heap.size, 3, none⟩ = some (.int .i64 p.to) := hPW.cell 3
        have p4 : W.cell? ⟨w.heap.size, 4, none⟩ = some (.slice A2 n2 c2) := hPW.cell 4
        have p5 : W.cell? ⟨w.heap.size, 5, none⟩ = some (.slice A3 n3 c3) := hPW.cell 5
        have q0 : W.cell? ⟨w.heap.size + 1, 0, none⟩ = some (.int .i64 q.fn) := hQW.cell 0
        have q1 : W.cell? ⟨w.heap.size + 1, 1, none⟩ = some (.int .i64 q.addr) := hQW.cell 1
        have q2 : W.cell? ⟨w.heap.size + 1, 2, none⟩ = some (.int .i64 q.count) := hQW.cell 2
        have q3 : W.cell? ⟨w.heap.size + 1, 3, none⟩ = some (.int .i64 q.to) := hQW.cell 3
        have q4 : W.cell? ⟨w.heap.size + 1, 4, none⟩ = some (.slice A4 n4 c4) := hQW.cell 4
        have q5 : W.cell? ⟨w.heap.size + 1, 5, none⟩ = some (.slice A5 n5 c5) := hQW.cell 5
        have r0 : W.cell? ⟨wr.heap.size, 0, none⟩ = some (.int .u8 (128 + f1)) := hRW.cell 0
        have r1 : W.cell? ⟨wr.heap.size, 1, none⟩ = some (.int .u8 f2) := hRW.cell 1
        clear hPW hQW hRW
        go_simp
        with_reducible rfl
      simp only [Act.put]
      try simp only [List.getElem_toArray, List.getElem_cons_succ, List.getElem_cons_zero]
      try simp only [List.setIfInBounds_toArray, List.set_cons_succ, List.set_cons_zero]
      refine wpAnyH_take (i := 28) (v := ?v28_529) rfl (by kernel_rfl) (by kernel_rfl) (by kernel_rfl) (fun _ _ _ h => h) (Or.inl ⟨by rfl, ?y28_529⟩) hS ?r28_529
      case y28_529 =>
        rintro W hH
        have hPW := hP9.below hH hP9.lt
        have hQW := hQ9.below hH hQ9.lt
        have hRW := hR9.below hH hR9.lt
        have p0 : W.cell? ⟨w.heap.size, 0, none⟩ = some (.int .i64 p.fn) := hPW.cell 0
        have p1 : W.cell? ⟨w.heap.size, 1, none⟩ = some (.int .i64 p.addr) := hPW.cell 1
        have p2 : W.cell? ⟨w.heap.size, 2, none⟩ = some (.int .i64 p.count) := hPW.cell 2
        have p3 : W.cell? ⟨w.heap.size, 3, none⟩ = some (.int .i64 p.to) := hPW.cell 3
        have p4 : W.cell? ⟨w.heap.size, 4, none⟩ = some (.slice A2 n2 c2) := hPW.cell 4
        have p5 : W.cell? ⟨w.heap.size, 5, none⟩ = some (.slice A3 n3 c3) := hPW.cell 5
        have q0 : W.cell? ⟨w.heap.size + 1, 0, none⟩ = some (.int .i64 q.fn) := hQW.cell 0
        have q1 : W.cell? ⟨w.heap.size + 1, 1, none⟩ = some (.int .i64 q.addr) := hQW.cell 1
        have q2 : W.cell? ⟨w.heap.size + 1, 2, none⟩ = some (.int .i64 q.count) := hQW.cell 2
        have q3 : W.cell? ⟨w.heap.size + 1, 3, none⟩ = some (.int .i64 q.to) := hQW.cell 3
        have q4 : W.cell? ⟨w.heap.size + 1, 4, none⟩ = some (.slice A4 n4 c4) := hQW.cell 4
        have q5 : W.cell? ⟨w.heap.size + 1, 5, none⟩ = some (.slice A5 n5 c5) := hQW.cell 5
        have r0 : W.cell? ⟨wr.heap.size, 0, none⟩ = some (.int .u8 (128 + f1)) := hRW.cell 0
        have r1 : W.cell? ⟨wr.heap.size, 1, none⟩ = some (.int .u8 f2) := hRW.cell 1
        clear hPW hQW hRW
        go_simp
        with_reducible rfl
      simp only [Act.put]
      try simp only [List.getElem_toArray, List.getElem_cons_succ, List.getElem_cons_zero]
      try simp only [List.setIfInBounds_toArray, List.set_cons_succ, List.set_cons_zero]
      refine wpAnyH_take (i := 30) (v := ?v30_530) rfl (by kernel_rfl) (by kernel_rfl) (by kernel_rfl) (fun _ _ _ h => h) (Or.inl ⟨by rfl, ?y30_530⟩) hS ?r30_530
      case y30_530 =>
        rintro W hH
        have hPW := hP9.below hH hP9.lt
        have hQW := hQ9.below hH hQ9.lt
        have hRW := hR9.below hH hR9.lt
        have p0 : W.cell? ⟨w.heap.size, 0, none⟩ = some (.int .i64 p.fn) := hPW.cell 0
        have p1 : W.cell? ⟨w.heap.size, 1, none⟩ = some (.int .i64 p.addr) := hPW.cell 1
        have p2 : W.cell? ⟨w.heap.size, 2, none⟩ = some (.int .i64 p.count) := hPW.cell 2
        have p3 : W.cell? ⟨w.heap.size, 3, none⟩ = some (.int .i64 p.to) := hPW.cell 3
        have p4 : W.cell? ⟨w.heap.size, 4, none⟩ = some (.slice A2 n2 c2) := hPW.cell 4
        have p5 : W.cell? ⟨w.heap.size, 5, none⟩ = some (.slice A3 n3 c3) := hPW.cell 5
        have q0 : W.cell? ⟨w.heap.size + 1, 0, none⟩ = some (.int .i64 q.fn) := hQW.cell 0
        have q1 : W.cell? ⟨w.heap.size + 1, 1, none⟩ = some (.int .i64 q.addr) := hQW.cell 1
        have q2 : W.cell? ⟨w.heap.size + 1, 2, none⟩ = some (.int .i64 q.count) := hQW.cell 2
        have q3 : W.cell? ⟨w.heap.size + 1, 3, none⟩ = some (.int .i64 q.to) := hQW.cell 3
        have q4 : W.cell? ⟨w.heap.size + 1, 4, none⟩ = some (.slice A4 n4 c4) := hQW.cell 4
        have q5 : W.cell? ⟨w.heap.size + 1, 5, none⟩ = some (.slice A5 n5 c5) := hQW.cell 5
        have r0 : W.cell? ⟨wr.heap.size, 0, none⟩ = some (.int .u8 (128 + f1)) := hRW.cell 0
        have r1 : W.cell? ⟨wr.heap.size, 1, none⟩ = some (.int .u8 f2) := hRW.cell 1
        clear hPW hQW hRW
        go_simp
        with_reducible rfl
      simp only [Act.put]
      try simp only [List.getElem_toArray, List.getElem_cons_succ, List.getElem_cons_zero]
      try simp only [List.setIfInBounds_toArray, List.set_cons_succ, List.set_cons_zero]
      refine wpAnyH_take (i := 31) (v := ?v31_531) rfl (by kernel_rfl) (by kernel_rfl) (by kernel_rfl) (fun _ _ _ h => h) (Or.inl ⟨by rfl, ?y31_531⟩) hS ?r31_531
      case y31_531 =>
        rintro W hH
        have hPW := hP9.below hH hP9.lt
        have hQW := hQ9.below hH hQ9.lt
        have hRW := hR9.below hH hR9.lt
        have p0 : W.cell? ⟨w.heap.size, 0, none⟩ = some (.int .i64 p.fn) := hPW.cell 0
        have p1 : W.cell? ⟨w.heap.size, 1, none⟩ = some (.int .i64 p.addr) := hPW.cell 1
        have p2 : W.cell? ⟨w.heap.size, 2, none⟩ = some (.int .i64 p.count) := hPW.cell 2
        have p3 : W.cell? ⟨w.heap.size, 3, none⟩ = some (.int .i64 p.to) := hPW.cell 3
        have p4 : W.cell? ⟨w.heap.size, 4, none⟩ = some (.slice A2 n2 c2) := hPW.cell 4
        have p5 : W.cell? ⟨w.heap.size, 5, none⟩ = some (.slice A3 n3 c3) := hPW.cell 5
        have q0 : W.cell? ⟨w.heap.size + 1, 0, none⟩ = some (.int .i64 q.fn) := hQW.cell 0
        have q1 : W.cell? ⟨w.heap.size + 1, 1, none⟩ = some (.int .i64 q.addr) := hQW.cell 1
        have q2 : W.cell? ⟨w.heap.size + 1, 2, none⟩ = some (.int .i64 q.count) := hQW.cell 2
        have q3 : W.cell? ⟨w.heap.size + 1, 3, none⟩ = some (.int .i64 q.to) := hQW.cell 3
        have q4 : W.cell? ⟨w.heap.size + 1, 4, none⟩ = some (.slice A4 n4 c4) := hQW.cell 4
        have q5 : W.cell? ⟨w.heap.size + 1, 5, none⟩ = some (.slice A5 n5 c5) := hQW.cell 5
        have r0 : W.cell? ⟨wr.heap.size, 0, none⟩ = some (.int .u8 (128 + f1)) := hRW.cell 0
        have r1 : W.cell? ⟨wr.heap.size, 1, none⟩ = some (.int .u8 f2) := hRW.cell 1
        clear hPW hQW hRW
        go_simp
        with_reducible rfl
      simp only [Act.put]
      try simp only [List.getElem_toArray, List.getElem_cons_succ, List.getElem_cons_zero]
      try simp only [List.setIfInBounds_toArray, List.set_cons_succ, List.set_cons_zero]
      refine wpAnyH_ready (rs := [29]) (by kernel_rfl) (by simp) ?_
      refine AllReadyH.cons rfl (fun K' hK' => ?_) AllReadyH.nil
      go_simp
      refine (HSA.out _ (hb8w.trans (hS.mono hz8))).mono ?_
      rintro e x29 ⟨rfl, hn⟩
      have hS29 := hS.trans (hn.mono hS.size)
      clear hS hn
      go_simp
      refine hK'.out _ _ hS29 (fun hS => ?_)
      clear hK' K'
      refine wpAnyH_ready (rs := [32]) (by kernel_rfl) (by simp) ?_
      refine AllReadyH.cons rfl (fun K' hK' => ?_) AllReadyH.nil
      go_simp
      refine (HSB.out _ (hb8w.trans (hS.mono hz8))).mono ?_
      rintro e x32 ⟨rfl, hn⟩
      have hS32 := hS.trans (hn.mono hS.size)
      clear hS hn
      go_simp
      refine hK'.out _ _ hS32 (fun hS => ?_)
      clear hK' K'
      refine wpAnyH_take (i := 33) (v := ?v33_532) rfl (by kernel_rfl) (by kernel_rfl) (by kernel_rfl) (fun _ _ _ h => h) (Or.inl ⟨by rfl, ?y33_532⟩) hS ?r33_532
      case y33_532 =>
        rintro W hH
        have hPW := hP9.below hH hP9.lt
        have hQW := hQ9.below hH hQ9.lt
        have hRW := hR9.below hH hR9.lt
        have p0 : W.cell? ⟨w.heap.size, 0, none⟩ = some (.int .i64 p.fn) := hPW.cell 0
        have p1 : W.cell? ⟨w.heap.size, 1, none⟩ = some (.int .i64 p.addr) := hPW.cell 1
        have p2 : W.cell? ⟨w.heap.size, 2, none⟩ = some (.int .i64 p.count) := hPW.cell 2
        have p3 : W.cell? ⟨w.heap.size, 3, none⟩ = some (.int .i64 p.to) := hPW.cell 3
        have p4 : W.cell? ⟨w.heap.size, 4, none⟩ = some (.slice A2 n2 c2) := hPW.cell 4
        have p5 : W.cell? ⟨w.heap.size, 5, none⟩ = some (.slice A3 n3 c3) := hPW.cell 5
        have q0 : W.cell? ⟨w.heap.size + 1, 0, none⟩ = some (.int .i64 q.fn) := hQW.cell 0
        have q1 : W.cell? ⟨w.heap.size + 1, 1, none⟩ = some (.int .i64 q.addr) := hQW.cell 1
        have q2 : W.cell? ⟨w.heap.size + 1, 2, none⟩ = some (.int .i64 q.count) := hQW.cell 2
        have q3 : W.cell? ⟨w.heap.size + 1, 3, none⟩ = some (.int .i64 q.to) := hQW.cell 3
        have q4 : W.cell? ⟨w.heap.size + 1, 4, none⟩ = some (.slice A4 n4 c4) := hQW.cell 4
        have q5 : W.cell? ⟨w.heap.size + 1, 5, none⟩ = some (.slice A5 n5 c5) := hQW.cell 5
        have r0 : W.cell? ⟨wr.heap.size, 0, none⟩ = some (.int .u8 (128 + f1)) := hRW.cell 0
        have r1 : W.cell? ⟨wr.heap.size, 1, none⟩ = some (.int .u8 f2) := hRW.cell 1
        clear hPW hQW hRW
        go_simp
        with_reducible rfl
      simp only [Act.put]
      try simp only [List.getElem_toArray, List.getElem_cons_succ, List.getElem_cons_zero]
      try simp only [List.setIfInBounds_toArray, List.set_cons_succ, List.set_cons_zero]
      refine wpAnyH_take (i := 34) (v := ?v34_533) rfl (by kernel_rfl) (by kernel_rfl) (by kernel_rfl) (fun _ _ _ h => h) (Or.inl ⟨by rfl, ?y34_533⟩) hS ?r34_533
      case y34_533 =>
        rintro W hH
        have hPW := hP9.below hH hP9.lt
        have hQW := hQ9.below hH hQ9.lt
        have hRW := hR9.below hH hR9.lt
        have p0 : W.cell? ⟨w.heap.size, 0, none⟩ = some (.int .i64 p.fn) := hPW.cell 0
        have p1 : W.cell? ⟨w.heap.size, 1, none⟩ = some (.int .i64 p.addr) := hPW.cell 1
        have p2 : W.cell? ⟨w.heap.size, 2, none⟩ = some (.int .i64 p.count) := hPW.cell 2
        have p3 : W.cell? ⟨w.heap.size, 3, none⟩ = some (.int .i64 p.to) := hPW.cell 3
        have p4 : W.cell? ⟨w.heap.size, 4, none⟩ = some (.slice A2 n2 c2) := hPW.cell 4
        have p5 : W.cell? ⟨w.heap.size, 5, none⟩ = some (.slice A3 n3 c3) := hPW.cell 5
        have q0 : W.cell? ⟨w.heap.size + 1, 0, none⟩ = some (.int .i64 q.fn) := hQW.cell 0
        have q1 : W.cell? ⟨w.heap.size + 1, 1, none⟩ = some (.int .i64 q.addr) := hQW.cell 1
        have q2 : W.cell? ⟨w.heap.size + 1, 2, none⟩ = some (.int .i64 q.count) := hQW.cell 2
        have q3 : W.cell? ⟨w.heap.size + 1, 3, none⟩ = some (.int .i64 q.to) := hQW.cell 3
        have q4 : W.cell? ⟨w.heap.size + 1, 4, none⟩ = some (.slice A4 n4 c4) := hQW.cell 4
        have q5 : W.cell? ⟨w.heap.size + 1, 5, none⟩ = some (.slice A5 n5 c5) := hQW.cell 5
        have r0 : W.cell? ⟨wr.heap.size, 0, none⟩ = some (.int .u8 (128 + f1)) := hRW.cell 0
        have r1 : W.cell? ⟨wr.heap.size, 1, none⟩ = some (.int .u8 f2) := hRW.cell 1
        clear hPW hQW hRW
        go_simp
        with_reducible rfl
      simp only [Act.put]
      try simp only [List.getElem_toArray, List.getElem_cons_succ, List.getElem_cons_zero]
      try simp only [List.setIfInBounds_toArray, List.set_cons_succ, List.set_cons_zero]
      refine wpAnyH_take (i := 35) (v := ?v35_534) rfl (by kernel_rfl) (by kernel_rfl) (by kernel_rfl) (fun _ _ _ h => h) (Or.inl ⟨by rfl, ?y35_534⟩) hS ?r35_534
      case y35_534 =>
        rintro W hH
        have hPW := hP9.below hH hP9.lt
        have hQW := hQ9.below hH hQ9.lt
        have hRW := hR9.below hH hR9.lt
        have p0 : W.cell? ⟨w.heap.size, 0, none⟩ = some (.int .i64 p.fn) := hPW.cell 0
        have p1 : W.cell? ⟨w.heap.size, 1, none⟩ = some (.int .i64 p.addr) := hPW.cell 1
        have p2 : W.cell? ⟨w.heap.size, 2, none⟩ = some (.int .i64 p.count) := hPW.cell 2
        have p3 : W.cell? ⟨w.heap.size, 3, none⟩ = some (.int .i64 p.to) := hPW.cell 3
        have p4 : W.cell? ⟨w.heap.size, 4, none⟩ = some (.slice A2 n2 c2) := hPW.cell 4
        have p5 : W.cell? ⟨w.heap.size, 5, none⟩ = some (.slice A3 n3 c3) := hPW.cell 5
        have q0 : W.cell? ⟨w.heap.size + 1, 0, none⟩ = some (.int .i64 q.fn) := hQW.cell 0
        have q1 : W.cell? ⟨w.heap.size + 1, 1, none⟩ = some (.int .i64 q.addr) := hQW.cell 1
        have q2 : W.cell? ⟨w.heap.size + 1, 2, none⟩ = some (.int .i64 q.count) := hQW.cell 2
        have q3 : W.cell? ⟨w.heap.size + 1, 3, none⟩ = some (.int .i64 q.to) := hQW.cell 3
        have q4 : W.cell? ⟨w.heap.size + 1, 4, none⟩ = some (.slice A4 n4 c4) := hQW.cell 4
        have q5 : W.cell? ⟨w.heap.size + 1, 5, none⟩ = some (.slice A5 n5 c5) := hQW.cell 5
        have r0 : W.cell? ⟨wr.heap.size, 0, none⟩ = some (.int .u8 (128 + f1)) := hRW.cell 0
        have r1 : W.cell? ⟨wr.heap.size, 1, none⟩ = some (.int .u8 f2) := hRW.cell 1
        clear hPW hQW hRW
        go_simp
        with_reducible rfl
      simp only [Act.put]
      try simp only [List.getElem_toArray, List.getElem_cons_succ, List.getElem_cons_zero]
      try simp only [List.setIfInBounds_toArray, List.set_cons_succ, List.set_cons_zero]
      refine wpAnyH_take (i := 36) (v := ?v36_535) rfl (by kernel_rfl) (by kernel_rfl) (by kernel_rfl) (fun _ _ _ h => h) (Or.inl ⟨by rfl, ?y36_535⟩) hS ?r36_535
      case y36_535 =>
        rintro W hH
        have hPW := hP9.below hH hP9.lt
        have hQW := hQ9.below hH hQ9.lt
        have hRW := hR9.below hH hR9.lt
        have p0 : W.cell? ⟨w.heap.size, 0, none⟩ = some (.int .i64 p.fn) := hPW.cell 0
        have p1 : W.cell? ⟨w.heap.size, 1, none⟩ = some (.int .i64 p.addr) := hPW.cell 1
        have p2 : W.cell? ⟨w.heap.size, 2, none⟩ = some (.int .i64 p.count) := hPW.cell 2
        have p3 : W.cell? ⟨w.heap.size, 3, none⟩ = some (.int .i64 p.to) := hPW.cell 3
        have p4 : W.cell? ⟨w.heap.size, 4, none⟩ = some (.slice A2 n2 c2) := hPW.cell 4
        have p5 : W.cell? ⟨w.heap.size, 5, none⟩ = some (.slice A3 n3 c3) := hPW.cell 5
        have q0 : W.cell? ⟨w.heap.size + 1, 0, none⟩ = some (.int .i64 q.fn) := hQW.cell 0
        have q1 : W.cell? ⟨w.heap.size + 1, 1, none⟩ = some (.int .i64 q.addr) := hQW.cell 1
        have q2 : W.cell? ⟨w.heap.size + 1, 2, none⟩ = some (.int .i64 q.count) := hQW.cell 2
        have q3 : W.cell? ⟨w.heap.size + 1, 3, none⟩ = some (.int .i64 q.to) := hQW.cell 3
        have q4 : W.cell? ⟨w.heap.size + 1, 4, none⟩ = some (.slice A4 n4 c4) := hQW.cell 4
        have q5 : W.cell? ⟨w.heap.size + 1, 5, none⟩ = some (.slice A5 n5 c5) := hQW.cell 5
        have r0 : W.cell? ⟨wr.heap.size, 0, none⟩ = some (.int .u8 (128 + f1)) := hRW.cell 0
        have r1 : W.cell? ⟨wr.heap.size, 1, none⟩ = some (.int .u8 f2) := hRW.cell 1
        clear hPW hQW hRW
        go_simp
        with_reducible rfl
      simp only [Act.put]
      try simp only [List.getElem_toArray, List.getElem_cons_succ, List.getElem_cons_zero]
      try simp only [List.setIfInBounds_toArray, List.set_cons_succ, List.set_cons_zero]
      refine wpAnyH_take (i := 37) (v := ?v37_536) rfl (by kernel_rfl) (by kernel_rfl) (by kernel_rfl) (fun _ _ _ h => h) (Or.inl ⟨by rfl, ?y37_536⟩) hS ?r37_536
      case y37_536 =>
        rintro W hH
        have hPW := hP9.below hH hP9.lt
        have hQW := hQ9.below hH hQ9.lt
        have hRW := hR9.below hH hR9.lt
        have p0 : W.cell? ⟨w.heap.size, 0, none⟩ = some (.int .i64 p.fn) := hPW.cell 0
        have p1 : W.cell? ⟨w.heap.size, 1, none⟩ = some (.int .i64 p.addr) := hPW.cell 1
        have p2 : W.cell? ⟨w.heap.size, 2, none⟩ = some (.int .i64 p.count) := hPW.cell 2
        have p3 : W.cell? ⟨w.heap.size, 3, none⟩ = some (.int .i64 p.to) := hPW.cell 3
        have p4 : W.cell? ⟨w.heap.size, 4, none⟩ = some (.slice A2 n2 c2) := hPW.cell 4
        have p5 : W.cell? ⟨w.heap.size, 5, none⟩ = some (.slice A3 n3 c3) := hPW.cell 5
        have q0 : W.cell? ⟨w.heap.size + 1, 0, none⟩ = some (.int .i64 q.fn) := hQW.cell 0
        have q1 : W.cell? ⟨w.heap.size + 1, 1, none⟩ = some (.int .i64 q.addr) := hQW.cell 1
        have q2 : W.cell? ⟨w.heap.size + 1, 2, none⟩ = some (.int .i64 q.count) := hQW.cell 2
        have q3 : W.cell? ⟨w.heap.size + 1, 3, none⟩ = some (.int .i64 q.to) := hQW.cell 3
        have q4 : W.cell? ⟨w.heap.size + 1, 4, none⟩ = some (.slice A4 n4 c4) := hQW.cell 4
        have q5 : W.cell? ⟨w.heap.size + 1, 5, none⟩ = some (.slice A5 n5 c5) := hQW.cell 5
        have r0 : W.cell? ⟨wr.heap.size, 0, none⟩ = some (.int .u8 (128 + f1)) := hRW.cell 0
        have r1 : W.cell? ⟨wr.heap.size, 1, none⟩ = some (.int .u8 f2) := hRW.cell 1
        clear hPW hQW hRW
        go_simp
        with_reducible rfl
      simp only [Act.put]
      try simp only [List.getElem_toArray, List.getElem_cons_succ, List.getElem_cons_zero]
      try simp only [List.setIfInBounds_toArray, List.set_cons_succ, List.set_cons_zero]
      refine wpAnyH_ready (rs := [38]) (by kernel_rfl) (by simp) ?_
      refine AllReadyH.cons rfl (fun K' hK' => ?_) AllReadyH.nil
      go_simp
      refine (HSC.out _ (hb8w.trans (hS.mono hz8))).mono ?_
      rintro e x38 ⟨rfl, hn⟩
      have hS38 := hS.trans (hn.mono hS.size)
      clear hS hn
      go_simp
      refine hK'.out _ _ hS38 (fun hS => ?_)
      clear hK' K'
      refine wpAnyH_take (i := 39) (v := ?v39_537) rfl (by kernel_rfl) (by kernel_rfl) (by kernel_rfl) (fun _ _ _ h => h) (Or.inl ⟨by rfl, ?y39_537⟩) hS ?r39_537
      case y39_537 =>
        rintro W hH
        have hPW := hP9.below hH hP9.lt
        have hQW := hQ9.below hH hQ9.lt
        have hRW := hR9.below hH hR9.lt
        have p0 : W.cell? ⟨w.heap.size, 0, none⟩ = some (.int .i64 p.fn) := hPW.cell 0
        have p1 : W.cell? ⟨w.heap.size, 1, none⟩ = some (.int .i64 p.addr) := hPW.cell 1
        have p2 : W.cell? ⟨w.heap.size, 2, none⟩ = some (.int .i64 p.count) := hPW.cell 2
        have p3 : W.cell? ⟨w.heap.size, 3, none⟩ = some (.int .i64 p.to) := hPW.cell 3
        have p4 : W.cell? ⟨w.heap.size, 4, none⟩ = some (.slice A2 n2 c2) := hPW.cell 4
        have p5 : W.cell? ⟨w.heap.size, 5, none⟩ = some (.slice A3 n3 c3) := hPW.cell 5
        have q0 : W.cell? ⟨w.heap.size + 1, 0, none⟩ = some (.int .i64 q.fn) := hQW.cell 0
        have q1 : W.cell? ⟨w.heap.size + 1, 1, none⟩ = some (.int .i64 q.addr) := hQW.cell 1
        have q2 : W.cell? ⟨w.heap.size + 1, 2, none⟩ = some (.int .i64 q.count) := hQW.cell 2
        have q3 : W.cell? ⟨w.heap.size + 1, 3, none⟩ = some (.int .i64 q.to) := hQW.cell 3
        have q4 : W.cell? ⟨w.heap.size + 1, 4, none⟩ = some (.slice A4 n4 c4) := hQW.cell 4
        have q5 : W.cell? ⟨w.heap.size + 1, 5, none⟩ = some (.slice A5 n5 c5) := hQW.cell 5
        have r0 : W.cell? ⟨wr.heap.size, 0, none⟩ = some (.int .u8 (128 + f1)) := hRW.cell 0
        have r1 : W.cell? ⟨wr.heap.size, 1, none⟩ = some (.int .u8 f2) := hRW.cell 1
        clear hPW hQW hRW
        go_simp
        with_reducible rfl
      simp only [Act.put]
      try simp only [List.getElem_toArray, List.getElem_cons_succ, List.getElem_cons_zero]
      try simp only [List.setIfInBounds_toArray, List.set_cons_succ, List.set_cons_zero]
      refine wpAnyH_take (i := 40) (v := ?v40_538) rfl (by kernel_rfl) (by kernel_rfl) (by kernel_rfl) (fun _ _ _ h => h) (Or.inl ⟨by rfl, ?y40_538⟩) hS ?r40_538
      case y40_538 =>
        rintro W hH
        have hPW := hP9.below hH hP9.lt
        have hQW := hQ9.below hH hQ9.lt
        have hRW := hR9.below hH hR9.lt
        have p0 : W.cell? ⟨w.heap.size, 0, none⟩ = some (.int .i64 p.fn) := hPW.cell 0
        have p1 : W.cell? ⟨w.heap.size, 1, none⟩ = some (.int .i64 p.addr) := hPW.cell 1
        have p2 : W.cell? ⟨w.heap.size, 2, none⟩ = some (.int .i64 p.count) := hPW.cell 2
        have p3 : W.cell? ⟨w.heap.size, 3, none⟩ = some (.int .i64 p.to) := hPW.cell 3
        have p4 : W.cell? ⟨w.heap.size, 4, none⟩ = some (.slice A2 n2 c2) := hPW.cell 4
        have p5 : W.cell? ⟨w.heap.size, 5, none⟩ = some (.slice A3 n3 c3) := hPW.cell 5
        have q0 : W.cell? ⟨w.heap.size + 1, 0, none⟩ = some (.int .i64 q.fn) := hQW.cell 0
        have q1 : W.cell? ⟨w.heap.size + 1, 1, none⟩ = some (.int .i64 q.addr) := hQW.cell 1
        have q2 : W.cell? ⟨w.heap.size + 1, 2, none⟩ = some (.int .i64 q.count) := hQW.cell 2
        have q3 : W.cell? ⟨w.heap.size + 1, 3, none⟩ = some (.int .i64 q.to) := hQW.cell 3
        have q4 : W.cell? ⟨w.heap.size + 1, 4, none⟩ = some (.slice A4 n4 c4) := hQW.cell 4
        have q5 : W.cell? ⟨w.heap.size + 1, 5, none⟩ = some (.slice A5 n5 c5) := hQW.cell 5
        have r0 : W.cell? ⟨wr.heap.size, 0, none⟩ = some (.int .u8 (128 + f1)) := hRW.cell 0
        have r1 : W.cell? ⟨wr.heap.size, 1, none⟩ = some (.int .u8 f2) := hRW.cell 1
        clear hPW hQW hRW
        go_simp
        with_reducible rfl
      simp only [Act.put]
      try simp only [List.getElem_toArray, List.getElem_cons_succ, List.getElem_cons_zero]
      try simp only [List.setIfInBounds_toArray, List.set_cons_succ, List.set_cons_zero]
      refine wpAnyH_take (i := 41) (v := ?v41_539) rfl (by kernel_rfl) (by kernel_rfl) (by kernel_rfl) (fun _ _ _ h => h) (Or.inl ⟨by rfl, ?y41_539⟩) hS ?r41_539
      case y41_539 =>
        rintro W hH
        have hPW := hP9.below hH hP9.lt
        have hQW := hQ9.below hH hQ9.lt
        have hRW := hR9.below hH hR9.lt
        have p0 : W.cell? ⟨w.heap.size, 0, none⟩ = some (.int .i64 p.fn) := hPW.cell 0
        have p1 : W.cell? ⟨w.heap.size, 1, none⟩ = some (.int .i64 p.addr) := hPW.cell 1
        have p2 : W.cell? ⟨w.heap.size, 2, none⟩ = some (.int .i64 p.count) := hPW.cell 2
        have p3 : W.cell? ⟨w.heap.size, 3, none⟩ = some (.int .i64 p.to) := hPW.cell 3
        have p4 : W.cell? ⟨w.heap.size, 4, none⟩ = some (.slice A2 n2 c2) := hPW.cell 4
        have p5 : W.cell? ⟨w.heap.size, 5, none⟩ = some (.slice A3 n3 c3) := hPW.cell 5
        have q0 : W.cell? ⟨w.heap.size + 1, 0, none⟩ = some (.int .i64 q.fn) := hQW.cell 0
        have q1 : W.cell? ⟨w.heap.size + 1, 1, none⟩ = some (.int .i64 q.addr) := hQW.cell 1
        have q2 : W.cell? ⟨w.heap.size + 1, 2, none⟩ = some (.int .i64 q.count) := hQW.cell 2
        have q3 : W.cell? ⟨w.heap.size + 1, 3, none⟩ = some (.int .i64 q.to) := hQW.cell 3
        have q4 : W.cell? ⟨w.heap.size + 1, 4, none⟩ = some (.slice A4 n4 c4) := hQW.cell 4
        have q5 : W.cell? ⟨w.heap.size + 1, 5, none⟩ = some (.slice A5 n5 c5) := hQW.cell 5
        have r0 : W.cell? ⟨wr.heap.size, 0, none⟩ = some (.int .u8 (128 + f1)) := hRW.cell 0
        have r1 : W.cell? ⟨wr.heap.size, 1, none⟩ = some (.int .u8 f2) := hRW.cell 1
        clear hPW hQW hRW
        go_simp
        with_reducible rfl
      simp only [Act.put]
      try simp only [List.getElem_toArray, List.getElem_cons_succ, List.getElem_cons_zero]
      try simp only [List.setIfInBounds_toArray, List.set_cons_succ, List.set_cons_zero]
      refine wpAnyH_take (i := 42) (v := ?v42_540) rfl (by kernel_rfl) (by kernel_rfl) (by kernel_rfl) (fun _ _ _ h => h) (Or.inl ⟨by rfl, ?y42_540⟩) hS ?r42_540
      case y42_540 =>
        rintro W hH
        have hPW := hP9.below hH hP9.lt
        have hQW := hQ9.below hH hQ9.lt
        have hRW := hR9.below hH hR9.lt
        have p0 : W.cell? ⟨w.heap.size, 0, none⟩ = some (.int .i64 p.fn) := hPW.cell 0
        have p1 : W.cell? ⟨w.heap.size, 1, none⟩ = some (.int .i64 p.addr) := hPW.cell 1
        have p2 : W.cell? ⟨w.heap.size, 2, none⟩ = some (.int .i64 p.count) := hPW.cell 2
        have p3 : W.cell? ⟨w.heap.size, 3, none⟩ = some (.int .i64 p.to) := hPW.cell 3
        have p4 : W.cell? ⟨w.heap.size, 4, none⟩ = some (.slice A2 n2 c2) := hPW.cell 4
        have p5 : W.cell? ⟨w.heap.size, 5, none⟩ = some (.slice A3 n3 c3) := hPW.cell 5
        have q0 : W.cell? ⟨w.heap.size + 1, 0, none⟩ = some (.int .i64 q.fn) := hQW.cell 0
        have q1 : W.cell? ⟨w.heap.size + 1, 1, none⟩ = some (.int .i64 q.addr) := hQW.cell 1
        have q2 : W.cell? ⟨w.heap.size + 1, 2, none⟩ = some (.int .i64 q.count) := hQW.cell 2
        have q3 : W.cell? ⟨w.heap.size + 1, 3, none⟩ = some (.int .i64 q.to) := hQW.cell 3
        have q4 : W.cell? ⟨w.heap.size + 1, 4, none⟩ = some (.slice A4 n4 c4) := hQW.cell 4
        have q5 : W.cell? ⟨w.heap.size + 1, 5, none⟩ = some (.slice A5 n5 c5) := hQW.cell 5
        have r0 : W.cell? ⟨wr.heap.size, 0, none⟩ = some (.int .u8 (128 + f1)) := hRW.cell 0
        have r1 : W.cell? ⟨wr.heap.size, 1, none⟩ = some (.int .u8 f2) := hRW.cell 1
        clear hPW hQW hRW
        go_simp
        with_reducible rfl
      simp only [Act.put]
      try simp only [List.getElem_toArray, List.getElem_cons_succ, List.getElem_cons_zero]
      try simp only [List.setIfInBounds_toArray, List.set_cons_succ, List.set_cons_zero]
      refine wpAnyH_take (i := 43) (v := ?v43_541) rfl (by kernel_rfl) (by kernel_rfl) (by kernel_rfl) (fun _ _ _ h => h) (Or.inl ⟨by rfl, ?y43_541⟩) hS ?r43_541
      case y43_541 =>
        rintro W hH
        have hPW := hP9.below hH hP9.lt
        have hQW := hQ9.below hH hQ9.lt
        have hRW := hR9.below hH hR9.lt
        have p0 : W.cell? ⟨w.heap.size, 0, none⟩ = some (.int .i64 p.fn) := hPW.cell 0
        have p1 : W.cell? ⟨w.heap.size, 1, none⟩ = some (.int .i64 p.addr) := hPW.cell 1
        have p2 : W.cell? ⟨w.heap.size, 2, none⟩ = some (.int .i64 p.count) := hPW.cell 2
        have p3 : W.cell? ⟨w.heap.size, 3, none⟩ = some (.int .i64 p.to) := hPW.cell 3
        have p4 : W.cell? ⟨w.heap.size, 4, none⟩ = some (.slice A2 n2 c2) := hPW.cell 4
        have p5 : W.cell? ⟨w.heap.size, 5, none⟩ = some (.slice A3 n3 c3) := hPW.cell 5
        have q0 : W.cell? ⟨w.heap.size + 1, 0, none⟩ = some (.int .i64 q.fn) := hQW.cell 0
        have q1 : W.cell? ⟨w.heap.size + 1, 1, none⟩ = some (.int .i64 q.addr) := hQW.cell 1
        have q2 : W.cell? ⟨w.heap.size + 1, 2, none⟩ = some (.int .i64 q.count) := hQW.cell 2
        have q3 : W.cell? ⟨w.heap.size + 1, 3, none⟩ = some (.int .i64 q.to) := hQW.cell 3
        have q4 : W.cell? ⟨w.heap.size + 1, 4, none⟩ = some (.slice A4 n4 c4) := hQW.cell 4
        have q5 : W.cell? ⟨w.heap.size + 1, 5, none⟩ = some (.slice A5 n5 c5) := hQW.cell 5
        have r0 : W.cell? ⟨wr.heap.size, 0, none⟩ = some (.int .u8 (128 + f1)) := hRW.cell 0
        have r1 : W.cell? ⟨wr.heap.size, 1, none⟩ = some (.int .u8 f2) := hRW.cell 1
        clear hPW hQW hRW
        go_simp
        with_reducible rfl
      simp only [Act.put]
      try simp only [List.getElem_toArray, List.getElem_cons_succ, List.getElem_cons_zero]
      try simp only [List.setIfInBounds_toArray, List.set_cons_succ, List.set_cons_zero]
      refine wpAnyH_take (i := 44) (v := ?v44_542) rfl (by kernel_rfl) (by kernel_rfl) (by kernel_rfl) (fun _ _ _ h => h) (Or.inl ⟨by rfl, ?y44_542⟩) hS ?r44_542
      case y44_542 =>
        rintro W hH
        have hPW := hP9.below hH hP9.lt
        have hQW := hQ9.below hH hQ9.lt
        have hRW := hR9.below hH hR9.lt
        have p0 : W.cell? ⟨w.heap.size, 0, none⟩ = some (.int .i64 p.fn) := hPW.cell 0
        have p1 : W.cell? ⟨w.heap.size, 1, none⟩ = some (.int .i64 p.addr) := hPW.cell 1
        have p2 : W.cell? ⟨w.heap.size, 2, none⟩ = some (.int .i64 p.count) := hPW.cell 2
        have p3 : W.cell? ⟨w.heap.size, 3, none⟩ = some (.int .i64 p.to) := hPW.cell 3
        have p4 : W.cell? ⟨w.heap.size, 4, none⟩ = some (.slice A2 n2 c2) := hPW.cell 4
        have p5 : W.cell? ⟨w.heap.size, 5, none⟩ = some (.slice A3 n3 c3) := hPW.cell 5
        have q0 : W.cell? ⟨w.heap.size + 1, 0, none⟩ = some (.int .i64 q.fn) := hQW.cell 0
        have q1 : W.cell? ⟨w.heap.size + 1, 1, none⟩ = some (.int .i64 q.addr) := hQW.cell 1
        have q2 : W.cell? ⟨w.heap.size + 1, 2, none⟩ = some (.int .i64 q.count) := hQW.cell 2
        have q3 : W.cell? ⟨w.heap.size + 1, 3, none⟩ = some (.int .i64 q.to) := hQW.cell 3
        have q4 : W.cell? ⟨w.heap.size + 1, 4, none⟩ = some (.slice A4 n4 c4) := hQW.cell 4
        have q5 : W.cell? ⟨w.heap.size + 1, 5, none⟩ = some (.slice A5 n5 c5) := hQW.cell 5
        have r0 : W.cell? ⟨wr.heap.size, 0, none⟩ = some (.int .u8 (128 + f1)) := hRW.cell 0
        have r1 : W.cell? ⟨wr.heap.size, 1, none⟩ = some (.int .u8 f2) := hRW.cell 1
        clear hPW hQW hRW
        go_simp
        with_reducible rfl
      simp only [Act.put]
      try simp only [List.getElem_toArray, List.getElem_cons_succ, List.getElem_cons_zero]
      try simp only [List.setIfInBounds_toArray, List.set_cons_succ, List.set_cons_zero]
      refine wpAnyH_take (i := 45) (v := ?v45_543) rfl (by kernel_rfl) (by kernel_rfl) (by kernel_rfl) (fun _ _ _ h => h) (Or.inl ⟨by rfl, ?y45_543⟩) hS ?r45_543
      case y45_543 =>
        rintro W hH
        have hPW := hP9.below hH hP9.lt
        have hQW := hQ9.below hH hQ9.lt
        have hRW := hR9.below hH hR9.lt
        have p0 : W.cell? ⟨w.heap.size, 0, none⟩ = some (.int .i64 p.fn) := hPW.cell 0
        have p1 : W.cell? ⟨w.heap.size, 1, none⟩ = some (.int .i64 p.addr) := hPW.cell 1
        have p2 : W.cell? ⟨w.heap.size, 2, none⟩ = some (.int .i64 p.count) := hPW.cell 2
        have p3 : W.cell? ⟨w.heap.size, 3, none⟩ = some (.int .i64 p.to) := hPW.cell 3
        have p4 : W.cell? ⟨w.heap.size, 4, none⟩ = some (.slice A2 n2 c2) := hPW.cell 4
        have p5 : W.cell? ⟨w.heap.size, 5, none⟩ = some (.slice A3 n3 c3) := hPW.cell 5
        have q0 : W.cell? ⟨w.heap.size + 1, 0, none⟩ = some (.int .i64 q.fn) := hQW.cell 0
        have q1 : W.cell? ⟨w.heap.size + 1, 1, none⟩ = some (.int .i64 q.addr) := hQW.cell 1
        have q2 : W.cell? ⟨w.heap.size + 1, 2, none⟩ = some (.int .i64 q.count) := hQW.cell 2
        have q3 : W.cell? ⟨w.heap.size + 1, 3, none⟩ = some (.int .i64 q.to) := hQW.cell 3
        have q4 : W.cell? ⟨w.heap.size + 1, 4, none⟩ = some (.slice A4 n4 c4) := hQW.cell 4
        have q5 : W.cell? ⟨w.heap.size + 1, 5, none⟩ = some (.slice A5 n5 c5) := hQW.cell 5
        have r0 : W.cell? ⟨wr.heap.size, 0, none⟩ = some (.int .u8 (128 + f1)) := hRW.cell 0
        have r1 : W.cell? ⟨wr.heap.size, 1, none⟩ = some (.int .u8 f2) := hRW.cell 1
        clear hPW hQW hRW
        go_simp
        with_reducible rfl
      simp only [Act.put]
      try simp only [List.getElem_toArray, List.getElem_cons_succ, List.getElem_cons_zero]
      try simp only [List.setIfInBounds_toArray, List.set_cons_succ, List.set_cons_zero]
      refine wpAnyH_take (i := 46) (v := ?v46_544) rfl (by kernel_rfl) (by kernel_rfl) (by kernel_rfl) (fun _ _ _ h => h) (Or.inl ⟨by rfl, ?y46_544⟩) hS ?r46_544
      case y46_544 =>
        rintro W hH
        have hPW := hP9.below hH hP9.lt
        have hQW := hQ9.below hH hQ9.lt
        have hRW := hR9.below hH hR9.lt
        have p0 : W.cell? ⟨w.heap.size, 0, none⟩ = some (.int .i64 p.fn) := hPW.cell 0
        have p1 : W.cell? ⟨w.heap.size, 1, none⟩ = some (.int .i64 p.addr) := hPW.cell 1
        have p2 : W.cell? ⟨w.heap.size, 2, none⟩ = some (.int .i64 p.count) := hPW.cell 2
        have p3 : W.cell? ⟨w.heap.size, 3, none⟩ = some (.int .i64 p.to) := hPW.cell 3
        have p4 : W.cell? ⟨w.heap.size, 4, none⟩ = some (.slice A2 n2 c2) := hPW.cell 4
        have p5 : W.cell? ⟨w.heap.size, 5, none⟩ = some (.slice A3 n3 c3) := hPW.cell 5
        have q0 : W.cell? ⟨w.heap.size + 1, 0, none⟩ = some (.int .i64 q.fn) := hQW.cell 0
        have q1 : W.cell? ⟨w.heap.size + 1, 1, none⟩ = some (.int .i64 q.addr) := hQW.cell 1
        have q2 : W.cell? ⟨w.heap.size + 1, 2, none⟩ = some (.int .i64 q.count) := hQW.cell 2
        have q3 : W.cell? ⟨w.heap.size + 1, 3, none⟩ = some (.int .i64 q.to) := hQW.cell 3
        have q4 : W.cell? ⟨w.heap.size + 1, 4, none⟩ = some (.slice A4 n4 c4) := hQW.cell 4
        have q5 : W.cell? ⟨w.heap.size + 1, 5, none⟩ = some (.slice A5 n5 c5) := hQW.cell 5
        have r0 : W.cell? ⟨wr.heap.size, 0, none⟩ = some (.int .u8 (128 + f1)) := hRW.cell 0
        have r1 : W.cell? ⟨wr.heap.size, 1, none⟩ = some (.int .u8 f2) := hRW.cell 1
        clear hPW hQW hRW
        go_simp
        with_reducible rfl
      simp only [Act.put]
      try simp only [List.getElem_toArray, List.getElem_cons_succ, List.getElem_cons_zero]
      try simp only [List.setIfInBounds_toArray, List.set_cons_succ, List.set_cons_zero]
      refine wpAnyH_take (i := 47) (v := ?v47_545) rfl (by kernel_rfl) (by kernel_rfl) (by kernel_rfl) (fun _ _ _ h => h) (Or.inl ⟨by rfl, ?y47_545⟩) hS ?r47_545
      case y47_545 =>
        rintro W hH
        have hPW := hP9.below hH hP9.lt
        have hQW := hQ9.below hH hQ9.lt
        have hRW := hR9.below hH hR9.lt
        have p0 : W.cell? ⟨w.heap.size, 0, none⟩ = some (.int .i64 p.fn) := hPW.cell 0
        have p1 : W.cell? ⟨w.heap.size, 1, none⟩ = some (.int .i64 p.addr) := hPW.cell 1
        have p2 : W.cell? ⟨w.heap.size, 2, none⟩ = some (.int .i64 p.count) := hPW.cell 2
        have p3 : W.cell? ⟨w.heap.size, 3, none⟩ = some (.int .i64 p.to) := hPW.cell 3
        have p4 : W.cell? ⟨w.heap.size, 4, none⟩ = some (.slice A2 n2 c2) := hPW.cell 4
        have p5 : W.cell? ⟨w.heap.size, 5, none⟩ = some (.slice A3 n3 c3) := hPW.cell 5
        have q0 : W.cell? ⟨w.heap.size + 1, 0, none⟩ = some (.int .i64 q.fn) := hQW.cell 0
        have q1 : W.cell? ⟨w.heap.size + 1, 1, none⟩ = some (.int .i64 q.addr) := hQW.cell 1
        have q2 : W.cell? ⟨w.heap.size + 1, 2, none⟩ = some (.int .i64 q.count) := hQW.cell 2
        have q3 : W.cell? ⟨w.heap.size + 1, 3, none⟩ = some (.int .i64 q.to) := hQW.cell 3
        have q4 : W.cell? ⟨w.heap.size + 1, 4, none⟩ = some (.slice A4 n4 c4) := hQW.cell 4
        have q5 : W.cell? ⟨w.heap.size + 1, 5, none⟩ = some (.slice A5 n5 c5) := hQW.cell 5
        have r0 : W.cell? ⟨wr.heap.size, 0, none⟩ = some (.int .u8 (128 + f1)) := hRW.cell 0
        have r1 : W.cell? ⟨wr.heap.size, 1, none⟩ = some (.int .u8 f2) := hRW.cell 1
        clear hPW hQW hRW
        go_simp
        with_reducible rfl
      simp only [Act.put]
      try simp only [List.getElem_toArray, List.getElem_cons_succ, List.getElem_cons_zero]
      try simp only [List.setIfInBounds_toArray, List.set_cons_succ, List.set_cons_zero]
      refine wpAnyH_take (i := 48) (v := ?v48_546) rfl (by kernel_rfl) (by kernel_rfl) (by kernel_rfl) (fun _ _ _ h => h) (Or.inl ⟨by rfl, ?y48_546⟩) hS ?r48_546
      case y48_546 =>
        rintro W hH
        have hPW := hP9.below hH hP9.lt
        have hQW := hQ9.below hH hQ9.lt
        have hRW := hR9.below hH hR9.lt
        have p0 : W.cell? ⟨w.heap.size, 0, none⟩ = some (.int .i64 p.fn) := hPW.cell 0
        have p1 : W.cell? ⟨w.heap.size, 1, none⟩ = some (.int .i64 p.addr) := hPW.cell 1
        have p2 : W.cell? ⟨w.heap.size, 2, none⟩ = some (.int .i64 p.count) := hPW.cell 2
        have p3 : W.cell? ⟨w.heap.size, 3, none⟩ = some (.int .i64 p.to) := hPW.cell 3
        have p4 : W.cell? ⟨w.heap.size, 4, none⟩ = some (.slice A2 n2 c2) := hPW.cell 4
        have p5 : W.cell? ⟨w.heap.size, 5, none⟩ = some (.slice A3 n3 c3) := hPW.cell 5
        have q0 : W.cell? ⟨w.heap.size + 1, 0, none⟩ = some (.int .i64 q.fn) := hQW.cell 0
        have q1 : W.cell? ⟨w.heap.size + 1, 1, none⟩ = some (.int .i64 q.addr) := hQW.cell 1
        have q2 : W.cell? ⟨w.heap.size + 1, 2, none⟩ = some (.int .i64 q.count) := hQW.cell 2
        have q3 : W.cell? ⟨w.heap.size + 1, 3, none⟩ = some (.int .i64 q.to) := hQW.cell 3
        have q4 : W.cell? ⟨w.heap.size + 1, 4, none⟩ = some (.slice A4 n4 c4) := hQW.cell 4
        have q5 : W.cell? ⟨w.heap.size + 1, 5, none⟩ = some (.slice A5 n5 c5) := hQW.cell 5
        have r0 : W.cell? ⟨wr.heap.size, 0, none⟩ = some (.int .u8 (128 + f1)) := hRW.cell 0
        have r1 : W.cell? ⟨wr.heap.size, 1, none⟩ = some (.int .u8 f2) := hRW.cell 1
        clear hPW hQW hRW
        go_simp
        with_reducible rfl
      simp only [Act.put]
      try simp only [List.getElem_toArray, List.getElem_cons_succ, List.getElem_cons_zero]
      try simp only [List.setIfInBounds_toArray, List.set_cons_succ, List.set_cons_zero]
      refine wpAnyH_take (i := 49) (v := ?v49_547) rfl (by kernel_rfl) (by kernel_rfl) (by kernel_rfl) (fun _ _ _ h => h) (Or.inl ⟨by rfl, ?y49_547⟩) hS ?r49_547
      case y49_547 =>
        rintro W hH
        have hPW := hP9.below hH hP9.lt
        have hQW := hQ9.below hH hQ9.lt
        have hRW := hR9.below hH hR9.lt
        have p0 : W.cell? ⟨w.heap.size, 0, none⟩ = some (.int .i64 p.fn) := hPW.cell 0
        have p1 : W.cell? ⟨w.heap.size, 1, none⟩ = some (.int .i64 p.addr) := hPW.cell 1
        have p2 : W.cell? ⟨w.heap.size, 2, none⟩ = some (.int .i64 p.count) := hPW.cell 2
        have p3 : W.cell? ⟨w.heap.size, 3, none⟩ = some (.int .i64 p.to) := hPW.cell 3
        have p4 : W.cell? ⟨w.heap.size, 4, none⟩ = some (.slice A2 n2 c2) := hPW.cell 4
        have p5 : W.cell? ⟨w.heap.size, 5, none⟩ = some (.slice A3 n3 c3) := hPW.cell 5
        have q0 : W.cell? ⟨w.heap.size + 1, 0, none⟩ = some (.int .i64 q.fn) := hQW.cell 0
        have q1 : W.cell? ⟨w.heap.size + 1, 1, none⟩ = some (.int .i64 q.addr) := hQW.cell 1
        have q2 : W.cell? ⟨w.heap.size + 1, 2, none⟩ = some (.int .i64 q.count) := hQW.cell 2
        have q3 : W.cell? ⟨w.heap.size + 1, 3, none⟩ = some (.int .i64 q.to) := hQW.cell 3
        have q4 : W.cell? ⟨w.heap.size + 1, 4, none⟩ = some (.slice A4 n4 c4) := hQW.cell 4
        have q5 : W.cell? ⟨w.heap.size + 1, 5, none⟩ = some (.slice A5 n5 c5) := hQW.cell 5
        have r0 : W.cell? ⟨wr.heap.size, 0, none⟩ = some (.int .u8 (128 + f1)) := hRW.cell 0
        have r1 : W.cell? ⟨wr.heap.size, 1, none⟩ = some (.int .u8 f2) := hRW.cell 1
        clear hPW hQW hRW
        go_simp
        with_reducible rfl
      simp only [Act.put]
      try simp only [List.getElem_toArray, List.getElem_cons_succ, List.getElem_cons_zero]
      try simp only [List.setIfInBounds_toArray, List.set_cons_succ, List.set_cons_zero]
      refine wpAnyH_take (i := 50) (v := ?v50_548) rfl (by kernel_rfl) (by kernel_rfl) (by kernel_rfl) (fun _ _ _ h => h) (Or.inl ⟨by rfl, ?y50_548⟩) hS ?r50_548
      case y50_548 =>
        rintro W hH
        have hPW := hP9.below hH hP9.lt
        have hQW := hQ9.below hH hQ9.lt
        have hRW := hR9.below hH hR9.lt
        have p0 : W.cell? ⟨w.heap.size, 0, none⟩ = some (.int .i64 p.fn) := hPW.cell 0
        have p1 : W.cell? ⟨w.heap.size, 1, none⟩ = some (.int .i64 p.addr) := hPW.cell 1
        have p2 : W.cell? ⟨w.heap.size, 2, none⟩ = some (.int .i64 p.count) := hPW.cell 2
        have p3 : W.cell? ⟨w.heap.size, 3, none⟩ = some (.int .i64 p.to) := hPW.cell 3
        have p4 : W.cell? ⟨w.heap.size, 4, none⟩ = some (.slice A2 n2 c2) := hPW.cell 4
        have p5 : W.cell? ⟨w.heap.size, 5, none⟩ = some (.slice A3 n3 c3) := hPW.cell 5
        have q0 : W.cell? ⟨w.heap.size + 1, 0, none⟩ = some (.int .i64 q.fn) := hQW.cell 0
        have q1 : W.cell? ⟨w.heap.size + 1, 1, none⟩ = some (.int .i64 q.addr) := hQW.cell 1
        have q2 : W.cell? ⟨w.heap.size + 1, 2, none⟩ = some (.int .i64 q.count) := hQW.cell 2
        have q3 : W.cell? ⟨w.heap.size + 1, 3, none⟩ = some (.int .i64 q.to) := hQW.cell 3
        have q4 : W.cell? ⟨w.heap.size + 1, 4, none⟩ = some (.slice A4 n4 c4) := hQW.cell 4
        have q5 : W.cell? ⟨w.heap.size + 1, 5, none⟩ = some (.slice A5 n5 c5) := hQW.cell 5
        have r0 : W.cell? ⟨wr.heap.size, 0, none⟩ = some (.int .u8 (128 + f1)) := hRW.cell 0
        have r1 : W.cell? ⟨wr.heap.size, 1, none⟩ = some (.int .u8 f2) := hRW.cell 1
        clear hPW hQW hRW
        go_simp
        with_reducible rfl
      simp only [Act.put]
      try simp only [List.getElem_toArray, List.getElem_cons_succ, List.getElem_cons_zero]
      try simp only [List.setIfInBounds_toArray, List.set_cons_succ, List.set_cons_zero]
      refine wpAnyH_take (i := 52) (v := ?v52_549) rfl (by kernel_rfl) (by kernel_rfl) (by kernel_rfl) (fun _ _ _ h => h) (Or.inl ⟨by rfl, ?y52_549⟩) hS ?r52_549
      case y52_549 =>
        rintro W hH
        have hPW := hP9.below hH hP9.lt
        have hQW := hQ9.below hH hQ9.lt
        have hRW := hR9.below hH hR9.lt
        have p0 : W.cell? ⟨w.heap.size, 0, none⟩ = some (.int .i64 p.fn) := hPW.cell 0
        have p1 : W.cell? ⟨w.heap.size, 1, none⟩ = some (.int .i64 p.addr) := hPW.cell 1
        have p2 : W.cell? ⟨w.heap.size, 2, none⟩ = some (.int .i64 p.count) := hPW.cell 2
        have p3 : W.cell? ⟨w.heap.size, 3, none⟩ = some (.int .i64 p.to) := hPW.cell 3
        have p4 : W.cell? ⟨w.heap.size, 4, none⟩ = some (.slice A2 n2 c2) := hPW.cell 4
        have p5 : W.cell? ⟨w.heap.size, 5, none⟩ = some (.slice A3 n3 c3) := hPW.cell 5
        have q0 : W.cell? ⟨w.heap.size + 1, 0, none⟩ = some (.int .i64 q.fn) := hQW.cell 0
        have q1 : W.cell? ⟨w.heap.size + 1, 1, none⟩ = some (.int .i64 q.addr) := hQW.cell 1
        have q2 : W.cell? ⟨w.heap.size + 1, 2, none⟩ = some (.int .i64 q.count) := hQW.cell 2
        have q3 : W.cell? ⟨w.heap.size + 1, 3, none⟩ = some (.int .i64 q.to) := hQW.cell 3
        have q4 : W.cell? ⟨w.heap.size + 1, 4, none⟩ = some (.slice A4 n4 c4) := hQW.cell 4
        have q5 : W.cell? ⟨w.heap.size + 1, 5, none⟩ = some (.slice A5 n5 c5) := hQW.cell 5
        have r0 : W.cell? ⟨wr.heap.size, 0, none⟩ = some (.int .u8 (128 + f1)) := hRW.cell 0
        have r1 : W.cell? ⟨wr.heap.size, 1, none⟩ = some (.int .u8 f2) := hRW.cell 1
        clear hPW hQW hRW
        go_simp
        with_reducible rfl
      simp only [Act.put]
      try simp only [List.getElem_toArray, List.getElem_cons_succ, List.getElem_cons_zero]
      try simp only [List.setIfInBounds_toArray, List.set_cons_succ, List.set_cons_zero]
      refine wpAnyH_take (i := 53) (v := ?v53_550) rfl (by kernel_rfl) (by kernel_rfl) (by kernel_rfl) (fun _ _ _ h => h) (Or.inl ⟨by rfl, ?y53_550⟩) hS ?r53_550
      case y53_550 =>
        rintro W hH
        have hPW := hP9.below hH hP9.lt
        have hQW := hQ9.below hH hQ9.lt
        have hRW := hR9.below hH hR9.lt
        have p0 : W.cell? ⟨w.heap.size, 0, none⟩ = some (.int .i64 p.fn) := hPW.cell 0
        have p1 : W.cell? ⟨w.heap.size, 1, none⟩ = some (.int .i64 p.addr) := hPW.cell 1
        have p2 : W.cell? ⟨w.heap.size, 2, none⟩ = some (.int .i64 p.count) := hPW.cell 2
        have p3 : W.cell? ⟨w.heap.size, 3, none⟩ = some (.int .i64 p.to) := hPW.cell 3
        have p4 : W.cell? ⟨w.heap.size, 4, none⟩ = some (.slice A2 n2 c2) := hPW.cell 4
        have p5 : W.cell? ⟨w.heap.size, 5, none⟩ = some (.slice A3 n3 c3) := hPW.cell 5
        have q0 : W.cell? ⟨w.heap.size + 1, 0, none⟩ = some (.int .i64 q.fn) := hQW.cell 0
        have q1 : W.cell? ⟨w.heap.size + 1, 1, none⟩ = some (.int .i64 q.addr) := hQW.cell 1
        have q2 : W.cell? ⟨w.heap.size + 1, 2, none⟩ = some (.int .i64 q.count) := hQW.cell 2
        have q3 : W.cell? ⟨w.heap.size + 1, 3, none⟩ = some (.int .i64 q.to) := hQW.cell 3
        have q4 : W.cell? ⟨w.heap.size + 1, 4, none⟩ = some (.slice A4 n4 c4) := hQW.cell 4
        have q5 : W.cell? ⟨w.heap.size + 1, 5, none⟩ = some (.slice A5 n5 c5) := hQW.cell 5
        have r0 : W.cell? ⟨wr.heap.size, 0, none⟩ = some (.int .u8 (128 + f1)) := hRW.cell 0
        have r1 : W.cell? ⟨wr.heap.size, 1, none⟩ = some (.int .u8 f2) := hRW.cell 1
        clear hPW hQW hRW
        go_simp
        with_reducible rfl
      simp only [Act.put]
      try simp only [List.getElem_toArray, List.getElem_cons_succ, List.getElem_cons_zero]
      try simp only [List.setIfInBounds_toArray, List.set_cons_succ, List.set_cons_zero]
      refine wpAnyH_take (i := 54) (v := ?v54_551) rfl (by kernel_rfl) (by kernel_rfl) (by kernel_rfl) (fun _ _ _ h => h) (Or.inl ⟨by rfl, ?y54_551⟩) hS ?r54_551
      case y54_551 =>
        rintro W hH
        have hPW := hP9.below hH hP9.lt
        have hQW := hQ9.below hH hQ9.lt
        have hRW := hR9.below hH hR9.lt
        have p0 : W.cell? ⟨w.heap.size, 0, none⟩ = some (.int .i64 p.fn) := hPW.cell 0
        have p1 : W.cell? ⟨w.heap.size, 1, none⟩ = some (.int .i64 p.addr) := hPW.cell 1
        have p2 : W.cell? ⟨w.heap.size, 2, none⟩ = some (.int .i64 p.count) := hPW.cell 2
        have p3 : W.cell? ⟨w.heap.size, 3, none⟩ = some (.int .i64 p.to) := hPW.cell 3
        have p4 : W.cell? ⟨w.heap.size, 4, none⟩ = some (.slice A2 n2 c2) := hPW.cell 4
        have p5 : W.cell? ⟨w.heap.size, 5, none⟩ = some (.slice A3 n3 c3) := hPW.cell 5
        have q0 : W.cell? ⟨w.heap.size + 1, 0, none⟩ = some (.int .i64 q.fn) := hQW.cell 0
        have q1 : W.cell? ⟨w.heap.size + 1, 1, none⟩ = some (.int .i64 q.addr) := hQW.cell 1
        have q2 : W.cell? ⟨w.heap.size + 1, 2, none⟩ = some (.int .i64 q.count) := hQW.cell 2
        have q3 : W.cell? ⟨w.heap.size + 1, 3, none⟩ = some (.int .i64 q.to) := hQW.cell 3
        have q4 : W.cell? ⟨w.heap.size + 1, 4, none⟩ = some (.slice A4 n4 c4) := hQW.cell 4
        have q5 : W.cell? ⟨w.heap.size + 1, 5, none⟩ = some (.slice A5 n5 c5) := hQW.cell 5
        have r0 : W.cell? ⟨wr.heap.size, 0, none⟩ = some (.int .u8 (128 + f1)) := hRW.cell 0
        have r1 : W.cell? ⟨wr.heap.size, 1, none⟩ = some (.int .u8 f2) := hRW.cell 1
        clear hPW hQW hRW
        go_simp
        with_reducible rfl
      simp only [Act.put]
      try simp only [List.getElem_toArray, List.getElem_cons_succ, List.getElem_cons_zero]
      try simp only [List.setIfInBounds_toArray, List.set_cons_succ, List.set_cons_zero]
      refine wpAnyH_take (i := 55) (v := ?v55_552) rfl (by kernel_rfl) (by kernel_rfl) (by kernel_rfl) (fun _ _ _ h => h) (Or.inl ⟨by rfl, ?y55_552⟩) hS ?r55_552
      case y55_552 =>
        rintro W hH
        have hPW := hP9.below hH hP9.lt
        have hQW := hQ9.below hH hQ9.lt
        have hRW := hR9.below hH hR9.lt
        have p0 : W.cell? ⟨w.heap.size, 0, none⟩ = some (.int .i64 p.fn) := hPW.cell 0
        have p1 : W.cell? ⟨w.heap.size, 1, none⟩ = some (.int .i64 p.addr) := hPW.cell 1
        have p2 : W.cell? ⟨w.heap.size, 2, none⟩ = some (.int .i64 p.count) := hPW.cell 2
        have p3 : W.cell? ⟨w.heap.size, 3, none⟩ = some (.int .i64 p.to) := hPW.cell 3
        have p4 : W.cell? ⟨w.heap.size, 4, none⟩ = some (.slice A2 n2 c2) := hPW.cell 4
        have p5 : W.cell? ⟨w.heap.size, 5, none⟩ = some (.slice A3 n3 c3) := hPW.cell 5
        have q0 : W.cell? ⟨w.heap.size + 1, 0, none⟩ = some (.int .i64 q.fn) := hQW.cell 0
        have q1 : W.cell? ⟨w.heap.size + 1, 1, none⟩ = some (.int .i64 q.addr) := hQW.cell 1
        have q2 : W.cell? ⟨w.heap.size + 1, 2, none⟩ = some (.int .i64 q.count) := hQW.cell 2
        have q3 : W.cell? ⟨w.heap.size + 1, 3, none⟩ = some (.int .i64 q.to) := hQW.cell 3
        have q4 : W.cell? ⟨w.heap.size + 1, 4, none⟩ = some (.slice A4 n4 c4) := hQW.cell 4
        have q5 : W.cell? ⟨w.heap.size + 1, 5, none⟩ = some (.slice A5 n5 c5) := hQW.cell 5
        have r0 : W.cell? ⟨wr.heap.size, 0, none⟩ = some (.int .u8 (128 + f1)) := hRW.cell 0
        have r1 : W.cell? ⟨wr.heap.size, 1, none⟩ = some (.int .u8 f2) := hRW.cell 1
        clear hPW hQW hRW
        go_simp
        with_reducible rfl
      simp only [Act.put]
      try simp only [List.getElem_toArray, List.getElem_cons_succ, List.getElem_cons_zero]
      try simp only [List.setIfInBounds_toArray, List.set_cons_succ, List.set_cons_zero]
      refine wpAnyH_take (i := 56) (v := ?v56_553) rfl (by kernel_rfl) (by kernel_rfl) (by kernel_rfl) (fun _ _ _ h => h) (Or.inl ⟨by rfl, ?y56_553⟩) hS ?r56_553
      case y56_553 =>
        rintro W hH
        have hPW := hP9.below hH hP9.lt
        have hQW := hQ9.below hH hQ9.lt
        have hRW := hR9.below hH hR9.lt
        have p0 : W.cell? ⟨w.heap.size, 0, none⟩ = some (.int .i64 p.fn) := hPW.cell 0
        have p1 : W.cell? ⟨w.heap.size, 1, none⟩ = some (.int .i64 p.addr) := hPW.cell 1
        have p2 : W.cell? ⟨w.heap.size, 2, none⟩ = some (.int .i64 p.count) := hPW.cell 2
        have p3 : W.cell? ⟨w.heap.size, 3, none⟩ = some (.int .i64 p.to) := hPW.cell 3
        have p4 : W.cell? ⟨w.heap.size, 4, none⟩ = some (.slice A2 n2 c2) := hPW.cell 4
        have p5 : W.cell? ⟨w.heap.size, 5, none⟩ = some (.slice A3 n3 c3) := hPW.cell 5
        have q0 : W.cell? ⟨w.heap.size + 1, 0, none⟩ = some (.int .i64 q.fn) := hQW.cell 0
        have q1 : W.cell? ⟨w.heap.size + 1, 1, none⟩ = some (.int .i64 q.addr) := hQW.cell 1
        have q2 : W.cell? ⟨w.heap.size + 1, 2, none⟩ = some (.int .i64 q.count) := hQW.cell 2
        have q3 : W.cell? ⟨w.heap.size + 1, 3, none⟩ = some (.int .i64 q.to) := hQW.cell 3
        have q4 : W.cell? ⟨w.heap.size + 1, 4, none⟩ = some (.slice A4 n4 c4) := hQW.cell 4
        have q5 : W.cell? ⟨w.heap.size + 1, 5, none⟩ = some (.slice A5 n5 c5) := hQW.cell 5
        have r0 : W.cell? ⟨wr.heap.size, 0, none⟩ = some (.int .u8 (128 + f1)) := hRW.cell 0
        have r1 : W.cell? ⟨wr.heap.size, 1, none⟩ = some (.int .u8 f2) := hRW.cell 1
        clear hPW hQW hRW
        go_simp
        with_reducible rfl
      simp only [Act.put]
      try simp only [List.getElem_toArray, List.getElem_cons_succ, List.getElem_cons_zero]
      try simp only [List.setIfInBounds_toArray, List.set_cons_succ, List.set_cons_zero]
      refine wpAnyH_take (i := 57) (v := ?v57_554) rfl (by kernel_rfl) (by kernel_rfl) (by kernel_rfl) (fun _ _ _ h => h) (Or.inl ⟨by rfl, ?y57_554⟩) hS ?r57_554
      case y57_554 =>
        rintro W hH
        have hPW := hP9.below hH hP9.lt
        have hQW := hQ9.below hH hQ9.lt
        have hRW := hR9.below hH hR9.lt
        have p0 : W.cell? ⟨w.heap.size, 0, none⟩ = some (.int .i64 p.fn) := hPW.cell 0
        have p1 : W.cell? ⟨w.heap.size, 1, none⟩ = some (.int .i64 p.addr) := hPW.cell 1
        have p2 : W.cell? ⟨w.heap.size, 2, none⟩ = some (.int .i64 p.count) := hPW.cell 2
        have p3 : W.cell? ⟨w.heap.size, 3, none⟩ = some (.int .i64 p.to) := hPW.cell 3
        have p4 : W.cell? ⟨w.heap.size, 4, none⟩ = some (.slice A2 n2 c2) := hPW.cell 4
        have p5 : W.cell? ⟨w.heap.size, 5, none⟩ = some (.slice A3 n3 c3) := hPW.cell 5
        have q0 : W.cell? ⟨w.heap.size + 1, 0, none⟩ = some (.int .i64 q.fn) := hQW.cell 0
        have q1 : W.cell? ⟨w.heap.size + 1, 1, none⟩ = some (.int .i64 q.addr) := hQW.cell 1
        have q2 : W.cell? ⟨w.heap.size + 1, 2, none⟩ = some (.int .i64 q.count) := hQW.cell 2
        have q3 : W.cell? ⟨w.heap.size + 1, 3, none⟩ = some (.int .i64 q.to) := hQW.cell 3
        have q4 : W.cell? ⟨w.heap.size + 1, 4, none⟩ = some (.slice A4 n4 c4) := hQW.cell 4
        have q5 : W.cell? ⟨w.heap.size + 1, 5, none⟩ = some (.slice A5 n5 c5) := hQW.cell 5
        have r0 : W.cell? ⟨wr.heap.size, 0, none⟩ = some (.int .u8 (128 + f1)) := hRW.cell 0
        have r1 : W.cell? ⟨wr.heap.size, 1, none⟩ = some (.int .u8 f2) := hRW.cell 1
        clear hPW hQW hRW
        go_simp
        with_reducible rfl
      simp only [Act.put]
      try simp only [List.getElem_toArray, List.getElem_cons_succ, List.getElem_cons_zero]
      try simp only [List.setIfInBounds_toArray, List.set_cons_succ, List.set_cons_zero]
      refine wpAnyH_take (i := 58) (v := ?v58_555) rfl (by kernel_rfl) (by kernel_rfl) (by kernel_rfl) (fun _ _ _ h => h) (Or.inl ⟨by rfl, ?y58_555⟩) hS ?r58_555
      case y58_555 =>
        rintro W hH
        have hPW := hP9.below hH hP9.lt
        have hQW := hQ9.below hH hQ9.lt
        have hRW := hR9.below hH hR9.lt
        have p0 : W.cell? ⟨w.heap.size, 0, none⟩ = some (.int .i64 p.fn) := hPW.cell 0
        have p1 : W.cell? ⟨w.heap.size, 1, none⟩ = some (.int .i64 p.addr) := hPW.cell 1
        have p2 : W.cell? ⟨w.heap.size, 2, none⟩ = some (.int .i64 p.count) := hPW.cell 2
        have p3 : W.cell? ⟨w.heap.size, 3, none⟩ = some (.int .i64 p.to) := hPW.cell 3
        have p4 : W.cell? ⟨w.heap.size, 4, none⟩ = some (.slice A2 n2 c2) := hPW.cell 4
        have p5 : W.cell? ⟨w.heap.size, 5, none⟩ = some (.slice A3 n3 c3) := hPW.cell 5
        have q0 : W.cell? ⟨w.heap.size + 1, 0, none⟩ = some (.int .i64 q.fn) := hQW.cell 0
        have q1 : W.cell? ⟨w.heap.size + 1, 1, none⟩ = some (.int .i64 q.addr) := hQW.cell 1
        have q2 : W.cell? ⟨w.heap.size + 1, 2, none⟩ = some (.int .i64 q.count) := hQW.cell 2
        have q3 : W.cell? ⟨w.heap.size + 1, 3, none⟩ = some (.int .i64 q.to) := hQW.cell 3
        have q4 : W.cell? ⟨w.heap.size + 1, 4, none⟩ = some (.slice A4 n4 c4) := hQW.cell 4
        have q5 : W.cell? ⟨w.heap.size + 1, 5, none⟩ = some (.slice A5 n5 c5) := hQW.cell 5
        have r0 : W.cell? ⟨wr.heap.size, 0, none⟩ = some (.int .u8 (128 + f1)) := hRW.cell 0
        have r1 : W.cell? ⟨wr.heap.size, 1, none⟩ = some (.int .u8 f2) := hRW.cell 1
        clear hPW hQW hRW
        go_simp
        with_reducible rfl
      simp only [Act.put]
      try simp only [List.getElem_toArray, List.getElem_cons_succ, List.getElem_cons_zero]
      try simp only [List.setIfInBounds_toArray, List.set_cons_succ, List.set_cons_zero]
      refine wpAnyH_take (i := 59) (v := ?v59_556) rfl (by kernel_rfl) (by kernel_rfl) (by kernel_rfl) (fun _ _ _ h => h) (Or.inl ⟨by rfl, ?y59_556⟩) hS ?r59_556
      case y59_556 =>
        rintro W hH
        have hPW := hP9.below hH hP9.lt
        have hQW := hQ9.below hH hQ9.lt
        have hRW := hR9.below hH hR9.lt
        have p0 : W.cell? ⟨w.heap.size, 0, none⟩ = some (.int .i64 p.fn) := hPW.cell 0
        have p1 : W.cell? ⟨w.heap.size, 1, none⟩ = some (.int .i64 p.addr) := hPW.cell 1
        have p2 : W.cell? ⟨w.heap.size, 2, none⟩ = some (.int .i64 p.count) := hPW.cell 2
        have p3 : W.cell? ⟨w.heap.size, 3, none⟩ = some (.int .i64 p.to) := hPW.cell 3
        have p4 : W.cell? ⟨w.heap.size, 4, none⟩ = some (.slice A2 n2 c2) := hPW.cell 4
        have p5 : W.cell? ⟨w.heap.size, 5, none⟩ = some (.slice A3 n3 c3) := hPW.cell 5
        have q0 : W.cell? ⟨w.heap.size + 1, 0, none⟩ = some (.int .i64 q.fn) := hQW.cell 0
        have q1 : W.cell? ⟨w.heap.size + 1, 1, none⟩ = some (.int .i64 q.addr) := hQW.cell 1
        have q2 : W.cell? ⟨w.heap.size + 1, 2, none⟩ = some (.int .i64 q.count) := hQW.cell 2
        have q3 : W.cell? ⟨w.heap.size + 1, 3, none⟩ = some (.int .i64 q.to) := hQW.cell 3
        have q4 : W.cell? ⟨w.heap.size + 1, 4, none⟩ = some (.slice A4 n4 c4) := hQW.cell 4
        have q5 : W.cell? ⟨w.heap.size + 1, 5, none⟩ = some (.slice A5 n5 c5) := hQW.cell 5
        have r0 : W.cell? ⟨wr.heap.size, 0, none⟩ = some (.int .u8 (128 + f1)) := hRW.cell 0
        have r1 : W.cell? ⟨wr.heap.size, 1, none⟩ = some (.int .u8 f2) := hRW.cell 1
        clear hPW hQW hRW
        go_simp
        with_reducible rfl
      simp only [Act.put]
      try simp only [List.getElem_toArray, List.getElem_cons_succ, List.getElem_cons_zero]
      try simp only [List.setIfInBounds_toArray, List.set_cons_succ, List.set_cons_zero]
      refine wpAnyH_take (i := 60) (v := ?v60_557) rfl (by kernel_rfl) (by kernel_rfl) (by kernel_rfl) (fun _ _ _ h => h) (Or.inl ⟨by rfl, ?y60_557⟩) hS ?r60_557
      case y60_557 =>
        rintro W hH
        have hPW := hP9.below hH hP9.lt
        have hQW := hQ9.below hH hQ9.lt
        have hRW := hR9.below hH hR9.lt
        have p0 : W.cell? ⟨w.heap.size, 0, none⟩ = some (.int .i64 p.fn) := hPW.cell 0
        have p1 : W.cell? ⟨w.heap.size, 1, none⟩ = some (.int .i64 p.addr) := hPW.cell 1
        have p2 : W.cell? ⟨w.heap.size, 2, none⟩ = some (.int .i64 p.count) := hPW.cell 2
        have p3 : W.cell? ⟨w.heap.size, 3, none⟩ = some (.int .i64 p.to) := hPW.cell 3
        have p4 : W.cell? ⟨w.heap.size, 4, none⟩ = some (.slice A2 n2 c2) := hPW.cell 4
        have p5 : W.cell? ⟨w.heap.size, 5, none⟩ = some (.slice A3 n3 c3) := hPW.cell 5
        have q0 : W.cell? ⟨w.heap.size + 1, 0, none⟩ = some (.int .i64 q.fn) := hQW.cell 0
        have q1 : W.cell? ⟨w.heap.size + 1, 1, none⟩ = some (.int .i64 q.addr) := hQW.cell 1
        have q2 : W.cell? ⟨w.heap.size + 1, 2, none⟩ = some (.int .i64 q.count) := hQW.cell 2
        have q3 : W.cell? ⟨w.heap.size + 1, 3, none⟩ = some (.int .i64 q.to) := hQW.cell 3
        have q4 : W.cell? ⟨w.heap.size + 1, 4, none⟩ = some (.slice A4 n4 c4) := hQW.cell 4
        have q5 : W.cell? ⟨w.heap.size + 1, 5, none⟩ = some (.slice A5 n5 c5) := hQW.cell 5
        have r0 : W.cell? ⟨wr.heap.size, 0, none⟩ = some (.int .u8 (128 + f1)) := hRW.cell 0
        have r1 : W.cell? ⟨wr.heap.size, 1, none⟩ = some (.int .u8 f2) := hRW.cell 1
        clear hPW hQW hRW
        go_simp
        with_reducible rfl
      simp only [Act.put]
      try simp only [List.getElem_toArray, List.getElem_cons_succ, List.getElem_cons_zero]
      try simp only [List.setIfInBounds_toArray, List.set_cons_succ, List.set_cons_zero]
      refine wpAnyH_take (i := 61) (v := ?v61_558) rfl (by kernel_rfl) (by kernel_rfl) (by kernel_rfl) (fun _ _ _ h => h) (Or.inl ⟨by rfl, ?y61_558⟩) hS ?r61_558
      case y61_558 =>
        rintro W hH
        have hPW := hP9.below hH hP9.lt
        have hQW := hQ9.below hH hQ9.lt
        have hRW := hR9.below hH hR9.lt
        have p0 : W.cell? ⟨w.heap.size, 0, none⟩ = some (.int .i64 p.fn) := hPW.cell 0
        have p1 : W.cell? ⟨w.heap.size, 1, none⟩ = some (.int .i64 p.addr) := hPW.cell 1
        have p2 : W.cell? ⟨w.heap.size, 2, none⟩ = some (.int .i64 p.count) := hPW.cell 2
        have p3 : W.cell? ⟨w.heap.size, 3, none⟩ = some (.int .i64 p.to) := hPW.cell 3
        have p4 : W.cell? ⟨w.heap.size, 4, none⟩ = some (.slice A2 n2 c2) := hPW.cell 4
        have p5 : W.cell? ⟨w.heap.size, 5, none⟩ = some (.slice A3 n3 c3) := hPW.cell 5
        have q0 : W.cell? ⟨w.heap.size + 1, 0, none⟩ = some (.int .i64 q.fn) := hQW.cell 0
        have q1 : W.cell? ⟨w.heap.size + 1, 1, none⟩ = some (.int .i64 q.addr) := hQW.cell 1
        have q2 : W.cell? ⟨w.heap.size + 1, 2, none⟩ = some (.int .i64 q.count) := hQW.cell 2
        have q3 : W.cell? ⟨w.heap.size + 1, 3, none⟩ = some (.int .i64 q.to) := hQW.cell 3
        have q4 : W.cell? ⟨w.heap.size + 1, 4, none⟩ = some (.slice A4 n4 c4) := hQW.cell 4
        have q5 : W.cell? ⟨w.heap.size + 1, 5, none⟩ = some (.slice A5 n5 c5) := hQW.cell 5
        have r0 : W.cell? ⟨wr.heap.size, 0, none⟩ = some (.int .u8 (128 + f1)) := hRW.cell 0
        have r1 : W.cell? ⟨wr.heap.size, 1, none⟩ = some (.int .u8 f2) := hRW.cell 1
        clear hPW hQW hRW
        go_simp
        with_reducible rfl
      simp only [Act.put]
      try simp only [List.getElem_toArray, List.getElem_cons_succ, List.getElem_cons_zero]
      try simp only [List.setIfInBounds_toArray, List.set_cons_succ, List.set_cons_zero]
      refine wpAnyH_ready (rs := [51]) (by kernel_rfl) (by simp) ?_
      refine AllReadyH.cons rfl (fun K' hK' => ?_) AllReadyH.nil
      go_simp
      refine (HSD.out _ (hb8w.trans (hS.mono hz8))).mono ?_
      rintro e x51 ⟨rfl, hn⟩
      have hS51 := hS.trans (hn.mono hS.size)
      clear hS hn
      go_simp
      refine hK'.out _ _ hS51 (fun hS => ?_)
      clear hK' K'
      refine wpAnyH_ready (rs := [62]) (by kernel_rfl) (by simp) ?_
      refine AllReadyH.cons rfl (fun K' hK' => ?_) AllReadyH.nil
      go_simp
      refine (HSE.out _ (hb8w.trans (hS.mono hz8))).mono ?_
      rintro e x62 ⟨rfl, hn⟩
      have hS62 := hS.trans (hn.mono hS.size)
      clear hS hn
      go_simp
      refine hK'.out _ _ hS62 (fun hS => ?_)
      clear hK' K'
      refine wpAnyH_take (i := 63) (v := ?v63_559) rfl (by kernel_rfl) (by kernel_rfl) (by kernel_rfl) (fun _ _ _ h => h) (Or.inl ⟨by rfl, ?y63_559⟩) hS ?r63_559
      case y63_559 =>
        rintro W hH
        have hPW := hP9.below hH hP9.lt
        have hQW := hQ9.below hH hQ9.lt
        have hRW := hR9.below hH hR9.lt
        have p0 : W.cell? ⟨w.heap.size, 0, none⟩ = some (.int .i64 p.fn) := hPW.cell 0
        have p1 : W.cell? ⟨w.heap.size, 1, none⟩ = some (.int .i64 p.addr) := hPW.cell 1
        have p2 : W.cell? ⟨w.heap.size, 2, none⟩ = some (.int .i64 p.count) := hPW.cell 2
        have p3 : W.cell? ⟨w.heap.size, 3, none⟩ = some (.int .i64 p.to) := hPW.cell 3
        have p4 : W.cell? ⟨w.heap.size, 4, none⟩ = some (.slice A2 n2 c2) := hPW.cell 4
        have p5 : W.cell? ⟨w.heap.size, 5, none⟩ = some (.slice A3 n3 c3) := hPW.cell 5
        have q0 : W.cell? ⟨w.heap.size + 1, 0, none⟩ = some (.int .i64 q.fn) := hQW.cell 0
        have q1 : W.cell? ⟨w.heap.size + 1, 1, none⟩ = some (.int .i64 q.addr) := hQW.cell 1
        have q2 : W.cell? ⟨w.heap.size + 1, 2, none⟩ = some (.int .i64 q.count) := hQW.cell 2
        have q3 : W.cell? ⟨w.heap.size + 1, 3, none⟩ = some (.int .i64 q.to) := hQW.cell 3
        have q4 : W.cell? ⟨w.heap.size + 1, 4, none⟩ = some (.slice A4 n4 c4) := hQW.cell 4
        have q5 : W.cell? ⟨w.heap.size + 1, 5, none⟩ = some (.slice A5 n5 c5) := hQW.cell 5
        have r0 : W.cell? ⟨wr.heap.size, 0, none⟩ = some (.int .u8 (128 + f1)) := hRW.cell 0
        have r1 : W.cell? ⟨wr.heap.size, 1, none⟩ = some (.int .u8 f2) := hRW.cell 1
        clear hPW hQW hRW
        go_simp
        with_reducible rfl
      simp only [Act.put]
      try simp only [List.getElem_toArray, List.getElem_cons_succ, List.getElem_cons_zero]
      try simp only [List.setIfInBounds_toArray, List.set_cons_succ, List.set_cons_zero]
      refine wpAnyH_take (i := 64) (v := ?v64_560) rfl (by kernel_rfl) (by kernel_rfl) (by kernel_rfl) (fun _ _ _ h => h) (Or.inl ⟨by rfl, ?y64_560⟩) hS ?r64_560
      case y64_560 =>
        rintro W hH
        have hPW := hP9.below hH hP9.lt
        have hQW := hQ9.below hH hQ9.lt
        have hRW := hR9.below hH hR9.lt
        have p0 : W.cell? ⟨w.heap.size, 0, none⟩ = some (.int .i64 p.fn) := hPW.cell 0
        have p1 : W.cell? ⟨w.heap.size, 1, none⟩ = some (.int .i64 p.addr) := hPW.cell 1
        have p2 : W.cell? ⟨w.heap.size, 2, none⟩ = some (.int .i64 p.count) := hPW.cell 2
        have p3 : W.cell? ⟨w.heap.size, 3, none⟩ = some (.int .i64 p.to) := hPW.cell 3
        have p4 : W.cell? ⟨w.heap.size, 4, none⟩ = some (.slice A2 n2 c2) := hPW.cell 4
        have p5 : W.cell? ⟨w.heap.size, 5, none⟩ = some (.slice A3 n3 c3) := hPW.cell 5
        have q0 : W.cell? ⟨w.heap.size + 1, 0, none⟩ = some (.int .i64 q.fn) := hQW.cell 0
        have q1 : W.cell? ⟨w.heap.size + 1, 1, none⟩ = some (.int .i64 q.addr) := hQW.cell 1
        have q2 : W.cell? ⟨w.heap.size + 1, 2, none⟩ = some (.int .i64 q.count) := hQW.cell 2
        have q3 : W.cell? ⟨w.heap.size + 1, 3, none⟩ = some (.int .i64 q.to) := hQW.cell 3
        have q4 : W.cell? ⟨w.heap.size + 1, 4, none⟩ = some (.slice A4 n4 c4) := hQW.cell 4
        have q5 : W.cell? ⟨w.heap.size + 1, 5, none⟩ = some (.slice A5 n5 c5) := hQW.cell 5
        have r0 : W.cell? ⟨wr.heap.size, 0, none⟩ = some (.int .u8 (128 + f1)) := hRW.cell 0
        have r1 : W.cell? ⟨wr.heap.size, 1, none⟩ = some (.int .u8 f2) := hRW.cell 1
        clear hPW hQW hRW
        go_simp
        with_reducible rfl
      simp only [Act.put]
      try simp only [List.getElem_toArray, List.getElem_cons_succ, List.getElem_cons_zero]
      try simp only [List.setIfInBounds_toArray, List.set_cons_succ, List.set_cons_zero]
      refine wpAnyH_take (i := 65) (v := ?v65_561) rfl (by kernel_rfl) (by kernel_rfl) (by kernel_rfl) (fun _ _ _ h => h) (Or.inl ⟨by rfl, ?y65_561⟩) hS ?r65_561
      case y65_561 =>
        rintro W hH
        have hPW := hP9.below hH hP9.lt
        have hQW := hQ9.below hH hQ9.lt
        have hRW := hR9.below hH hR9.lt
        have p0 : W.cell? ⟨w.heap.size, 0, none⟩ = some (.int .i64 p.fn) := hPW.cell 0
        have p1 : W.cell? ⟨w.heap.size, 1, none⟩ = some (.int .i64 p.addr) := hPW.cell 1
        have p2 : W.cell? ⟨w.heap.size, 2, none⟩ = some (.int .i64 p.count) := hPW.cell 2
        have p3 : W.cell? ⟨w.heap.size, 3, none⟩ = some (.int .i64 p.to) := hPW.cell 3
        have p4 : W.cell? ⟨w.heap.size, 4, none⟩ = some (.slice A2 n2 c2) := hPW.cell 4
        have p5 : W.cell? ⟨w.heap.size, 5, none⟩ = some (.slice A3 n3 c3) := hPW.cell 5
        have q0 : W.cell? ⟨w.heap.size + 1, 0, none⟩ = some (.int .i64 q.fn) := hQW.cell 0
        have q1 : W.cell? ⟨w.heap.size + 1, 1, none⟩ = some (.int .i64 q.addr) := hQW.cell 1
        have q2 : W.cell? ⟨w.heap.size + 1, 2, none⟩ = some (.int .i64 q.count) := hQW.cell 2
        have q3 : W.cell? ⟨w.heap.size + 1, 3, none⟩ = some (.int .i64 q.to) := hQW.cell 3
        have q4 : W.cell? ⟨w.heap.size + 1, 4, none⟩ = some (.slice A4 n4 c4) := hQW.cell 4
        have q5 : W.cell? ⟨w.heap.size + 1, 5, none⟩ = some (.slice A5 n5 c5) := hQW.cell 5
        have r0 : W.cell? ⟨wr.heap.size, 0, none⟩ = some (.int .u8 (128 + f1)) := hRW.cell 0
        have r1 : W.cell? ⟨wr.heap.size, 1, none⟩ = some (.int .u8 f2) := hRW.cell 1
        clear hPW hQW hRW
        go_simp
        with_reducible rfl
      simp only [Act.put]
      try simp only [List.getElem_toArray, List.getElem_cons_succ, List.getElem_cons_zero]
      try simp only [List.setIfInBounds_toArray, List.set_cons_succ, List.set_cons_zero]
      refine wpAnyH_done (by kernel_rfl) ?_ _
      go_wp2_with fail
      go_ret
      exact ⟨rfl, hb8w.trans (hS.mono hz8)⟩
end Go.Proofs.Ytflbiichdjhaeaa
