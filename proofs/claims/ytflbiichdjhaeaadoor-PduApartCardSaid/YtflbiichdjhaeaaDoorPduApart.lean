/- The law PduApart. -/
import Derived.Test.YtflbiichdjhaeaaDoorPduAlive
import Derived.Test.YtflbiichdjhaeaaDoorPduBit
import Derived.Test.YtflbiichdjhaeaaDoorQuiet
namespace Go.Proofs.YtflbiichdjhaeaaDoor
open Go.RowKit
set_option linter.unusedVariables false


set_option maxRecDepth 100000 in
set_option maxHeartbeats 4000000 in
theorem law_apart (p q : AskP) (A2 : Option Addr) (n2 c2 : Nat) (A3 : Option Addr) (n3 c3 : Nat) (A4 : Option Addr) (n4 c4 : Nat) (A5 : Option Addr) (n5 c5 : Nat) (w : World) (hT : LimT w)
    (h2 : SlB w w.heap.size A2 n2 c2 p.bits) (h3 : SlI w w.heap.size .u16 A3 n3 c3 p.regs) (h3i : Reg16 p.regs) (h4 : SlB w w.heap.size A4 n4 c4 q.bits) (h5 : SlI w w.heap.size .u16 A5 n5 c5 q.regs) (h5i : Reg16 q.regs) :
    Calls Tryd.prog 3 #[.agg #[.int .i64 p.fn, .int .i64 p.addr, .int .i64 p.count, .int .i64 p.to, .slice A2 n2 c2, .slice A3 n3 c3], .agg #[.int .i64 q.fn, .int .i64 q.addr, .int .i64 q.count, .int .i64 q.to, .slice A4 n4 c4, .slice A5 n5 c5]] w fun e w' => e = .returned (.bool true) ∧ Below w.heap.size w w' := by
  obtain ⟨w2, hw2⟩ : ∃ w2, (w.alloc (.cells #[.int .i64 p.fn, .int .i64 p.addr, .int .i64 p.count, .int .i64 p.to, .slice A2 n2 c2, .slice A3 n3 c3] 25)).alloc (.cells #[.int .i64 q.fn, .int .i64 q.addr, .int .i64 q.count, .int .i64 q.to, .slice A4 n4 c4, .slice A5 n5 c5] 25) = w2 := ⟨_, rfl⟩
  have hb2 : Below w.heap.size w w2 := by rw [← hw2]; exact (((Below.refl _ w).alloc (Nat.le_refl _) _).alloc (by simp) _)
  have hs2 : w2.heap.size = w.heap.size + 2 := by rw [← hw2]; simp
  have hP2 : Held w2 w.heap.size 25 #[.int .i64 p.fn, .int .i64 p.addr, .int .i64 p.count, .int .i64 p.to, .slice A2 n2 c2, .slice A3 n3 c3] := by rw [← hw2]; exact (Held.new w _ _).alloc _
  have hQ2 : Held w2 (w.heap.size + 1) 25 #[.int .i64 q.fn, .int .i64 q.addr, .int .i64 q.count, .int .i64 q.to, .slice A4 n4 c4, .slice A5 n5 c5] := by rw [← hw2]; have := Held.new (w.alloc (.cells #[.int .i64 p.fn, .int .i64 p.addr, .int .i64 p.count, .int .i64 p.to, .slice A2 n2 c2, .slice A3 n3 c3] 25)) 25 #[.int .i64 q.fn, .int .i64 q.addr, .int .i64 q.count, .int .i64 q.to, .slice A4 n4 c4, .slice A5 n5 c5]; rw [World.size_alloc] at this; exact this
  have HG2 := Lib.hid (fun X => great_any A2 A3 n2 c2 n3 c3 X)
  have HG4 := Lib.hid (fun X => great_any A4 A5 n4 c4 n5 c5 X)
  have HAL := Lib.hid (alive_own w2 (hT.up hb2))
  have hu := Tryd.underlying25
  have hsz : (Tryd.prog.info? 25).map (·.size) = some 6 := by kernel_rfl
  obtain ⟨g2, hg2⟩ : ∃ g, (decide (2500 < n2) || decide (300 < n3)) = g := ⟨_, rfl⟩
  obtain ⟨g4, hg4⟩ : ∃ g, (decide (2500 < n4) || decide (300 < n5)) = g := ⟨_, rfl⟩
  rw [hg2] at HG2
  rw [hg4] at HG4
  clear hg2 hg4
  have HPB := Lib.hid (fun (X : World) (h : Below w.heap.size w X) => bytes_own (.agg #[.int .i64 p.fn, .int .i64 p.addr, .int .i64 p.count, .int .i64 p.to, .slice A2 n2 c2, .slice A3 n3 c3]) p X (hT.up h) ⟨A2, n2, c2, A3, n3, c3, rfl, h2.up h, h3.up h⟩ h3i)
  have HQB := Lib.hid (fun (X : World) (h : Below w.heap.size w X) => bytes_own (.agg #[.int .i64 q.fn, .int .i64 q.addr, .int .i64 q.count, .int .i64 q.to, .slice A4 n4 c4, .slice A5 n5 c5]) q X (hT.up h) ⟨A4, n4, c4, A5, n5, c5, rfl, h4.up h, h5.up h⟩ h5i)
  have HSA := Lib.hid (fun (X : World) (h : Below w.heap.size w X) => same_own (.agg #[.int .i64 p.fn, .int .i64 p.addr, .int .i64 p.count, .int .i64 p.to, .slice A2 n2 c2, .slice A3 n3 c3]) (.agg #[.int .i64 q.fn, .int .i64 q.addr, .int .i64 q.count, .int .i64 q.to, .slice A4 n4 c4, .slice A5 n5 c5]) p q X ⟨A2, n2, c2, A3, n3, c3, rfl, h2.up h, h3.up h⟩ ⟨A4, n4, c4, A5, n5, c5, rfl, h4.up h, h5.up h⟩)
  have HI := Lib.hid (And.intro h3i h5i)
  clear hT h2 h3 h4 h5 h3i h5i

  cases g2 with
  | true =>
    go_in
    go_wp2_with fail
    refine HAL.out.mono ?_
    rintro e w3 ⟨rfl, hb3⟩
    have hb3w := hb2.trans (hb3.mono hb2.size)
    have hP3 := hP2.below hb3 hP2.lt
    have hQ3 := hQ2.below hb3 hQ2.lt
    have p3_4 : w3.cell? ⟨w.heap.size, 4, none⟩ = some (.slice A2 n2 c2) := hP3.cell 4
    have p3_5 : w3.cell? ⟨w.heap.size, 5, none⟩ = some (.slice A3 n3 c3) := hP3.cell 5
    have q3_4 : w3.cell? ⟨w.heap.size + 1, 4, none⟩ = some (.slice A4 n4 c4) := hQ3.cell 4
    have q3_5 : w3.cell? ⟨w.heap.size + 1, 5, none⟩ = some (.slice A5 n5 c5) := hQ3.cell 5
    go_wp2_with (first
      | (go_at_call 10; (with_reducible refine (HG2.out _).mono ?_); rintro e w' ⟨rfl, rfl⟩)
      | (go_at_call 10; (with_reducible refine (HG4.out _).mono ?_); rintro e w' ⟨rfl, rfl⟩))
    go_ret
    exact ⟨rfl, hb3w⟩
  | false =>
  cases g4 with
  | true =>
    go_in
    go_wp2_with fail
    refine HAL.out.mono ?_
    rintro e w3 ⟨rfl, hb3⟩
    have hb3w := hb2.trans (hb3.mono hb2.size)
    have hP3 := hP2.below hb3 hP2.lt
    have hQ3 := hQ2.below hb3 hQ2.lt
    have p3_4 : w3.cell? ⟨w.heap.size, 4, none⟩ = some (.slice A2 n2 c2) := hP3.cell 4
    have p3_5 : w3.cell? ⟨w.heap.size, 5, none⟩ = some (.slice A3 n3 c3) := hP3.cell 5
    have q3_4 : w3.cell? ⟨w.heap.size + 1, 4, none⟩ = some (.slice A4 n4 c4) := hQ3.cell 4
    have q3_5 : w3.cell? ⟨w.heap.size + 1, 5, none⟩ = some (.slice A5 n5 c5) := hQ3.cell 5
    go_wp2_with (first
      | (go_at_call 10; (with_reducible refine (HG2.out _).mono ?_); rintro e w' ⟨rfl, rfl⟩)
      | (go_at_call 10; (with_reducible refine (HG4.out _).mono ?_); rintro e w' ⟨rfl, rfl⟩))
    go_ret
    exact ⟨rfl, hb3w⟩
  | false =>
    go_in
    go_wp2_with fail
    refine HAL.out.mono ?_
    rintro e w3 ⟨rfl, hb3⟩
    have hb3w := hb2.trans (hb3.mono hb2.size)
    have hP3 := hP2.below hb3 hP2.lt
    have hQ3 := hQ2.below hb3 hQ2.lt
    have p3_4 : w3.cell? ⟨w.heap.size, 4, none⟩ = some (.slice A2 n2 c2) := hP3.cell 4
    have p3_5 : w3.cell? ⟨w.heap.size, 5, none⟩ = some (.slice A3 n3 c3) := hP3.cell 5
    have q3_4 : w3.cell? ⟨w.heap.size + 1, 4, none⟩ = some (.slice A4 n4 c4) := hQ3.cell 4
    have q3_5 : w3.cell? ⟨w.heap.size + 1, 5, none⟩ = some (.slice A5 n5 c5) := hQ3.cell 5
    go_wp2_with (first | (first
        | (go_at_call 10; (with_reducible refine (HG2.out _).mono ?_); rintro e w' ⟨rfl, rfl⟩)
        | (go_at_call 10; (with_reducible refine (HG4.out _).mono ?_); rintro e w' ⟨rfl, rfl⟩)) | (first | ((with_reducible refine at_loadT 25 2 ?_); refine wpList_load_rowG rfl 25 (.tmp 2) rfl w.heap.size rfl 25 _ _ hP3 hu rfl hsz ?_) | ((with_reducible refine at_loadT 25 3 ?_); refine wpList_load_rowG rfl 25 (.tmp 3) rfl (w.heap.size + 1) rfl 25 _ _ hQ3 hu rfl hsz ?_)))
    refine (HPB.out w3 hb3w).mono ?_
    rintro e w4 ⟨Ax, nx, cx, rfl, sx, hb4⟩
    have hb4w := hb3w.trans (hb4.mono hb3w.size)
    have hP4 := hP3.below hb4 hP3.lt
    have hQ4 := hQ3.below hb4 hQ3.lt
    obtain ⟨ep, hep⟩ : ∃ e, errV (mayP p) = e := ⟨_, rfl⟩
    rw [hep]
    go_wp2_with (first | ((with_reducible refine at_loadT 25 2 ?_); refine wpList_load_rowG rfl 25 (.tmp 2) rfl w.heap.size rfl 25 _ _ hP4 hu rfl hsz ?_) | ((with_reducible refine at_loadT 25 3 ?_); refine wpList_load_rowG rfl 25 (.tmp 3) rfl (w.heap.size + 1) rfl 25 _ _ hQ4 hu rfl hsz ?_))
    refine (HQB.out w4 hb4w).mono ?_
    rintro e w5 ⟨Ay, ny, cy, rfl, sy, hb5⟩
    have hb5w := hb4w.trans (hb5.mono hb4w.size)
    have hP5 := hP4.below hb5 hP4.lt
    have hQ5 := hQ4.below hb5 hQ4.lt
    obtain ⟨eq, heq⟩ : ∃ e, errV (mayP q) = e := ⟨_, rfl⟩
    rw [heq]
    cases mp : mayP p with
    | false =>
      rw [mp] at hep
      obtain rfl : ep = 190 := hep.symm
      clear mp hep heq
      go_wp2_with fail
      go_ret
      exact ⟨rfl, hb5w⟩
    | true =>
    rw [mp] at hep
    obtain rfl : ep = 0 := hep.symm
    clear hep
    cases mq : mayP q with
    | false =>
      rw [mq] at heq
      obtain rfl : eq = 190 := heq.symm
      clear mp mq heq
      go_wp2_with fail
      go_ret
      exact ⟨rfl, hb5w⟩
    | true =>
    rw [mq] at heq
    obtain rfl : eq = 0 := heq.symm
    clear heq
    unfold askL at sx sy
    rw [if_pos mp] at sx
    rw [if_pos mq] at sy
    have B1 := byte8_bytes p mp HI.out.1
    have B2 := byte8_bytes q mq HI.out.2
    have hse := str_eq _ _ B1 B2
    rw [decide_eq_decide.2 (bytes_inj p q mp mq)] at hse
    obtain ⟨_, hpos, _, hd0, hf1, hf2⟩ := read_bytes p mp
    have hx0 : 0 < nx := by rw [← sx.1]; exact hpos
    obtain ⟨gx, ox, x0, rfl, hgx, hxx, hcx⟩ := sx.2.2.2.2.at_ (i := 0) hpos
    obtain rfl : p.fn = x0 := by rw [← hd0, List.getD, hxx]; rfl
    rw [Nat.add_zero] at hcx
    have hcx5 : w5.cell? ⟨gx, ox, none⟩ = some (.int .u8 p.fn) := (hb5.cell (p := ⟨gx, ox, none⟩) hgx).trans hcx
    obtain ⟨Sx, hSx⟩ : ∃ S, strOfNums (bytesP p) = S := ⟨_, rfl⟩
    obtain ⟨Sy, hSy⟩ : ∃ S, strOfNums (bytesP q) = S := ⟨_, rfl⟩
    obtain ⟨d, hd⟩ : ∃ d, decide (p = q) = d := ⟨_, rfl⟩
    rw [hSx, hSy, hd] at hse
    obtain ⟨w6, hw6⟩ : ∃ w6 : World, w5.drew = w6 := ⟨_, rfl⟩
    have hb56 : Below w5.heap.size w5 w6 := by rw [← hw6]; exact (Below.refl _ _).drew
    have hb6w := hb5w.trans (hb56.mono hb5w.size)
    have hz6 := hb6w.size
    have HC1 : Hid (∀ W, Below w6.heap.size w6 W → (convert 28 9 (.slice (some ⟨gx, ox, none⟩) nx cx)).run Tryd.prog W = .ok (.string Sx) W) := Lib.hid (fun W h => by rw [← hSx]; exact conv_sli (((sx.up hb5).up hb56).up h))
    have HC2 : Hid (∀ W, Below w6.heap.size w6 W → (convert 28 9 (.slice Ay ny cy)).run Tryd.prog W = .ok (.string Sy) W) := Lib.hid (fun W h => by rw [← hSy]; exact conv_sli ((sy.up hb56).up h))
    have HX : Hid (∀ W, Below w6.heap.size w6 W → W.cell? ⟨gx, ox, none⟩ = some (.int .u8 p.fn)) := Lib.hid (fun W h => (h.cell (p := ⟨gx, ox, none⟩) (Nat.lt_of_lt_of_le (Nat.lt_of_lt_of_le hgx hb5.size) hb56.size)).trans ((hb56.cell (p := ⟨gx, ox, none⟩) (Nat.lt_of_lt_of_le hgx hb5.size)).trans hcx5))
    have hP6 := hP5.below hb56 hP5.lt
    have hQ6 := hQ5.below hb56 hQ5.lt
    have HSB : Hid (∀ X, Below w.heap.size w X → Calls Tryd.prog 12 #[.agg #[.int .i64 p.fn, .int .i64 p.addr, .int .i64 p.count, .int .i64 p.to, .slice A2 n2 c2, .slice A3 n3 c3], .agg #[.int .i64 q.fn, .int .i64 q.addr, .int .i64 q.count, .int .i64 q.to, .slice A4 n4 c4, .slice A5 n5 c5]] X fun e w' => e = .returned (.bool d) ∧ Below X.heap.size X w') := Lib.hid (fun X h => by rw [← hd]; exact HSA.out X h)
    have hlt128 : p.fn < 128 := by omega
    have hnx0 : (0 : Int) < (nx : Int) := by omega
    have hdd : (d == d) = true := by simp
    have hfz : 0 ≤ p.fn := by omega
    clear hSx hSy hd HSA hxx hcx hcx5 sx sy B1 B2 hpos hd0 hf1 hf2 mp mq hP5 hQ5 hP4 hQ4 hP3 hQ3
    go_wp2_with fail
    refine wp_region_held (S := Below w6.heap.size w6) (by kernel_rfl) ?_
    change wpAnyH _ _ _ _ _ _ _ _ w5.drew
    rw [hw6]
    have hS := Below.refl w6.heap.size w6
    refine wpAnyH_take (i := 0) (v := ?v0_1) rfl (by kernel_rfl) (by kernel_rfl) (by kernel_rfl) (fun _ _ _ h => h) (Or.inl ⟨by rfl, ?y0_1⟩) hS ?r0_1
    case y0_1 =>
      rintro W hH
      have hPW := hP6.below hH hP6.lt
      have hQW := hQ6.below hH hQ6.lt
      have hcx := HX.out W hH
      have k1 := HC1.out W hH
      have k2 := HC2.out W hH
      have p0 : W.cell? ⟨w.heap.size, 0, none⟩ = some (.int .i64 p.fn) := hPW.cell 0
      have p1 : W.cell? ⟨w.heap.size, 1, none⟩ = some (.int .i64 p.addr) := hPW.cell 1
      have p2 : W.cell? ⟨w.heap.size, 2, none⟩ = some (.int .i64 p.count) := hPW.cell 2
      have p3 : W.cell? ⟨w.heap.size, 3, none⟩ = some (.int .i64 p.to) := hPW.cell 3
      have p4 : W.cell? ⟨w.heap.size, 4, none⟩ = some (.slice A2 n2 c2) := hPW.cell 4
      have p5 : W.cell? ⟨w.heap.size, 5, none⟩ = some (.slice A3 n3 c3) := hPW.cell 5
      have q0 : W.cell? ⟨w.heap.size + 1, 0, none⟩ = some (.int .i64 q.fn) := hQW.cell 0
      have q1 : W.cell? ⟨w.heap.size + 1, 1, none⟩ = some (.int .i64 q.addr) := hQW.cell 1
      have q2 : W.cell? ⟨w.heap.size + 1, 2, none⟩ = some (.int .i64 q.count) := hQW.cell 2
      have q3 : W.cell? ⟨w.heap.size + 1, 3, none⟩ = some (.int .i64 q.to) := hQW.cell 3
      have q4 : W.cell? ⟨w.heap.size + 1, 4, none⟩ = some (.slice A4 n4 c4) := hQW.cell 4
      have q5 : W.cell? ⟨w.heap.size + 1, 5, none⟩ = some (.slice A5 n5 c5) := hQW.cell 5
      clear hPW hQW
      go_simp
      with_reducible rfl
    simp only [Act.put]
    try simp only [List.getElem_toArray, List.getElem_cons_zero]
    try simp only [List.setIfInBounds_toArray, List.set_cons_succ, List.set_cons_zero]
    refine wpAnyH_take (i := 1) (v := ?v1_2) rfl (by kernel_rfl) (by kernel_rfl) (by kernel_rfl) (fun _ _ _ h => h) (Or.inl ⟨by rfl, ?y1_2⟩) hS ?r1_2
    case y1_2 =>
      rintro W hH
      have hPW := hP6.below hH hP6.lt
      have hQW := hQ6.below hH hQ6.lt
      have hcx := HX.out W hH
      have k1 := HC1.out W hH
      have k2 := HC2.out W hH
      have p0 : W.cell? ⟨w.heap.size, 0, none⟩ = some (.int .i64 p.fn) := hPW.cell 0
      have p1 : W.cell? ⟨w.heap.size, 1, none⟩ = some (.int .i64 p.addr) := hPW.cell 1
      have p2 : W.cell? ⟨w.heap.size, 2, none⟩ = some (.int .i64 p.count) := hPW.cell 2
      have p3 : W.cell? ⟨w.heap.size, 3, none⟩ = some (.int .i64 p.to) := hPW.cell 3
      have p4 : W.cell? ⟨w.heap.size, 4, none⟩ = some (.slice A2 n2 c2) := hPW.cell 4
      have p5 : W.cell? ⟨w.heap.size, 5, none⟩ = some (.slice A3 n3 c3) := hPW.cell 5
      have q0 : W.cell? ⟨w.heap.size + 1, 0, none⟩ = some (.int .i64 q.fn) := hQW.cell 0
      have q1 : W.cell? ⟨w.heap.size + 1, 1, none⟩ = some (.int .i64 q.addr) := hQW.cell 1
      have q2 : W.cell? ⟨w.heap.size + 1, 2, none⟩ = some (.int .i64 q.count) := hQW.cell 2
      have q3 : W.cell? ⟨w.heap.size + 1, 3, none⟩ = some (.int .i64 q.to) := hQW.cell 3
      have q4 : W.cell? ⟨w.heap.size + 1, 4, none⟩ = some (.slice A4 n4 c4) := hQW.cell 4
      have q5 : W.cell? ⟨w.heap.size + 1, 5, none⟩ = some (.slice A5 n5 c5) := hQW.cell 5
      clear hPW hQW
      go_simp
      with_reducible rfl
    simp only [Act.put]
    try simp only [List.getElem_toArray, List.getElem_cons_succ, List.getElem_cons_zero]
    try simp only [List.setIfInBounds_toArray, List.set_cons_succ, List.set_cons_zero]
    refine wpAnyH_take (i := 2) (v := ?v2_3) rfl (by kernel_rfl) (by kernel_rfl) (by kernel_rfl) (fun _ _ _ h => h) (Or.inl ⟨by rfl, ?y2_3⟩) hS ?r2_3
    case y2_3 =>
      rintro W hH
      have hPW := hP6.below hH hP6.lt
      have hQW := hQ6.below hH hQ6.lt
      have hcx := HX.out W hH
      have k1 := HC1.out W hH
      have k2 := HC2.out W hH
      have p0 : W.cell? ⟨w.heap.size, 0, none⟩ = some (.int .i64 p.fn) := hPW.cell 0
      have p1 : W.cell? ⟨w.heap.size, 1, none⟩ = some (.int .i64 p.addr) := hPW.cell 1
      have p2 : W.cell? ⟨w.heap.size, 2, none⟩ = some (.int .i64 p.count) := hPW.cell 2
      have p3 : W.cell? ⟨w.heap.size, 3, none⟩ = some (.int .i64 p.to) := hPW.cell 3
      have p4 : W.cell? ⟨w.heap.size, 4, none⟩ = some (.slice A2 n2 c2) := hPW.cell 4
      have p5 : W.cell? ⟨w.heap.size, 5, none⟩ = some (.slice A3 n3 c3) := hPW.cell 5
      have q0 : W.cell? ⟨w.heap.size + 1, 0, none⟩ = some (.int .i64 q.fn) := hQW.cell 0
      have q1 : W.cell? ⟨w.heap.size + 1, 1, none⟩ = some (.int .i64 q.addr) := hQW.cell 1
      have q2 : W.cell? ⟨w.heap.size + 1, 2, none⟩ = some (.int .i64 q.count) := hQW.cell 2
      have q3 : W.cell? ⟨w.heap.size + 1, 3, none⟩ = some (.int .i64 q.to) := hQW.cell 3
      have q4 : W.cell? ⟨w.heap.size + 1, 4, none⟩ = some (.slice A4 n4 c4) := hQW.cell 4
      have q5 : W.cell? ⟨w.heap.size + 1, 5, none⟩ = some (.slice A5 n5 c5) := hQW.cell 5
      clear hPW hQW
      go_simp
      with_reducible rfl
    simp only [Act.put]
    try simp only [List.getElem_toArray, List.getElem_cons_succ, List.getElem_cons_zero]
    try simp only [List.setIfInBounds_toArray, List.set_cons_succ, List.set_cons_zero]
    refine wpAnyH_take (i := 3) (v := ?v3_4) rfl (by kernel_rfl) (by kernel_rfl) (by kernel_rfl) (fun _ _ _ h => h) (Or.inl ⟨by rfl, ?y3_4⟩) hS ?r3_4
    case y3_4 =>
      rintro W hH
      have hPW := hP6.below hH hP6.lt
      have hQW := hQ6.below hH hQ6.lt
      have hcx := HX.out W hH
      have k1 := HC1.out W hH
      have k2 := HC2.out W hH
      have p0 : W.cell? ⟨w.heap.size, 0, none⟩ = some (.int .i64 p.fn) := hPW.cell 0
      have p1 : W.cell? ⟨w.heap.size, 1, none⟩ = some (.int .i64 p.addr) := hPW.cell 1
      have p2 : W.cell? ⟨w.heap.size, 2, none⟩ = some (.int .i64 p.count) := hPW.cell 2
      have p3 : W.cell? ⟨w.heap.size, 3, none⟩ = some (.int .i64 p.to) := hPW.cell 3
      have p4 : W.cell? ⟨w.heap.size, 4, none⟩ = some (.slice A2 n2 c2) := hPW.cell 4
      have p5 : W.cell? ⟨w.heap.size, 5, none⟩ = some (.slice A3 n3 c3) := hPW.cell 5
      have q0 : W.cell? ⟨w.heap.size + 1, 0, none⟩ = some (.int .i64 q.fn) := hQW.cell 0
      have q1 : W.cell? ⟨w.heap.size + 1, 1, none⟩ = some (.int .i64 q.addr) := hQW.cell 1
      have q2 : W.cell? ⟨w.heap.size + 1, 2, none⟩ = some (.int .i64 q.count) := hQW.cell 2
      have q3 : W.cell? ⟨w.heap.size + 1, 3, none⟩ = some (.int .i64 q.to) := hQW.cell 3
      have q4 : W.cell? ⟨w.heap.size + 1, 4, none⟩ = some (.slice A4 n4 c4) := hQW.cell 4
      have q5 : W.cell? ⟨w.heap.size + 1, 5, none⟩ = some (.slice A5 n5 c5) := hQW.cell 5
      clear hPW hQW
      go_simp
      with_reducible rfl
    simp only [Act.put]
    try simp only [List.getElem_toArray, List.getElem_cons_succ, List.getElem_cons_zero]
    try simp only [List.setIfInBounds_toArray, List.set_cons_succ, List.set_cons_zero]
    refine wpAnyH_take (i := 4) (v := ?v4_5) rfl (by kernel_rfl) (by kernel_rfl) (by kernel_rfl) (fun _ _ _ h => h) (Or.inl ⟨by rfl, ?y4_5⟩) hS ?r4_5
    case y4_5 =>
      rintro W hH
      have hPW := hP6.below hH hP6.lt
      have hQW := hQ6.below hH hQ6.lt
      have hcx := HX.out W hH
      have k1 := HC1.out W hH
      have k2 := HC2.out W hH
      have p0 : W.cell? ⟨w.heap.size, 0, none⟩ = some (.int .i64 p.fn) := hPW.cell 0
      have p1 : W.cell? ⟨w.heap.size, 1, none⟩ = some (.int .i64 p.addr) := hPW.cell 1
      have p2 : W.cell? ⟨w.heap.size, 2, none⟩ = some (.int .i64 p.count) := hPW.cell 2
      have p3 : W.cell? ⟨w.heap.size, 3, none⟩ = some (.int .i64 p.to) := hPW.cell 3
      have p4 : W.cell? ⟨w.heap.size, 4, none⟩ = some (.slice A2 n2 c2) := hPW.cell 4
      have p5 : W.cell? ⟨w.heap.size, 5, none⟩ = some (.slice A3 n3 c3) := hPW.cell 5
      have q0 : W.cell? ⟨w.heap.size + 1, 0, none⟩ = some (.int .i64 q.fn) := hQW.cell 0
      have q1 : W.cell? ⟨w.heap.size + 1, 1, none⟩ = some (.int .i64 q.addr) := hQW.cell 1
      have q2 : W.cell? ⟨w.heap.size + 1, 2, none⟩ = some (.int .i64 q.count) := hQW.cell 2
      have q3 : W.cell? ⟨w.heap.size + 1, 3, none⟩ = some (.int .i64 q.to) := hQW.cell 3
      have q4 : W.cell? ⟨w.heap.size + 1, 4, none⟩ = some (.slice A4 n4 c4) := hQW.cell 4
      have q5 : W.cell? ⟨w.heap.size + 1, 5, none⟩ = some (.slice A5 n5 c5) := hQW.cell 5
      clear hPW hQW
      go_simp
      with_reducible rfl
    simp only [Act.put]
    try simp only [List.getElem_toArray, List.getElem_cons_succ, List.getElem_cons_zero]
    try simp only [List.setIfInBounds_toArray, List.set_cons_succ, List.set_cons_zero]
    refine wpAnyH_take (i := 5) (v := ?v5_6) rfl (by kernel_rfl) (by kernel_rfl) (by kernel_rfl) (fun _ _ _ h => h) (Or.inl ⟨by rfl, ?y5_6⟩) hS ?r5_6
    case y5_6 =>
      rintro W hH
      have hPW := hP6.below hH hP6.lt
      have hQW := hQ6.below hH hQ6.lt
      have hcx := HX.out W hH
      have k1 := HC1.out W hH
      have k2 := HC2.out W hH
      have p0 : W.cell? ⟨w.heap.size, 0, none⟩ = some (.int .i64 p.fn) := hPW.cell 0
      have p1 : W.cell? ⟨w.heap.size, 1, none⟩ = some (.int .i64 p.addr) := hPW.cell 1
      have p2 : W.cell? ⟨w.heap.size, 2, none⟩ = some (.int .i64 p.count) := hPW.cell 2
      have p3 : W.cell? ⟨w.heap.size, 3, none⟩ = some (.int .i64 p.to) := hPW.cell 3
      have p4 : W.cell? ⟨w.heap.size, 4, none⟩ = some (.slice A2 n2 c2) := hPW.cell 4
      have p5 : W.cell? ⟨w.heap.size, 5, none⟩ = some (.slice A3 n3 c3) := hPW.cell 5
      have q0 : W.cell? ⟨w.heap.size + 1, 0, none⟩ = some (.int .i64 q.fn) := hQW.cell 0
      have q1 : W.cell? ⟨w.heap.size + 1, 1, none⟩ = some (.int .i64 q.addr) := hQW.cell 1
      have q2 : W.cell? ⟨w.heap.size + 1, 2, none⟩ = some (.int .i64 q.count) := hQW.cell 2
      have q3 : W.cell? ⟨w.heap.size + 1, 3, none⟩ = some (.int .i64 q.to) := hQW.cell 3
      have q4 : W.cell? ⟨w.heap.size + 1, 4, none⟩ = some (.slice A4 n4 c4) := hQW.cell 4
      have q5 : W.cell? ⟨w.heap.size + 1, 5, none⟩ = some (.slice A5 n5 c5) := hQW.cell 5
      clear hPW hQW
      go_simp
      with_reducible rfl
    simp only [Act.put]
    try simp only [List.getElem_toArray, List.getElem_cons_succ, List.getElem_cons_zero]
    try simp only [List.setIfInBounds_toArray, List.set_cons_succ, List.set_cons_zero]
    refine wpAnyH_take (i := 6) (v := ?v6_7) rfl (by kernel_rfl) (by kernel_rfl) (by kernel_rfl) (fun _ _ _ h => h) (Or.inl ⟨by rfl, ?y6_7⟩) hS ?r6_7
    case y6_7 =>
      rintro W hH
      have hPW := hP6.below hH hP6.lt
      have hQW := hQ6.below hH hQ6.lt
      have hcx := HX.out W hH
      have k1 := HC1.out W hH
      have k2 := HC2.out W hH
      have p0 : W.cell? ⟨w.heap.size, 0, none⟩ = some (.int .i64 p.fn) := hPW.cell 0
      have p1 : W.cell? ⟨w.heap.size, 1, none⟩ = some (.int .i64 p.addr) := hPW.cell 1
      have p2 : W.cell? ⟨w.heap.size, 2, none⟩ = some (.int .i64 p.count) := hPW.cell 2
      have p3 : W.cell? ⟨w.heap.size, 3, none⟩ = some (.int .i64 p.to) := hPW.cell 3
      have p4 : W.cell? ⟨w.heap.size, 4, none⟩ = some (.slice A2 n2 c2) := hPW.cell 4
      have p5 : W.cell? ⟨w.heap.size, 5, none⟩ = some (.slice A3 n3 c3) := hPW.cell 5
      have q0 : W.cell? ⟨w.heap.size + 1, 0, none⟩ = some (.int .i64 q.fn) := hQW.cell 0
      have q1 : W.cell? ⟨w.heap.size + 1, 1, none⟩ = some (.int .i64 q.addr) := hQW.cell 1
      have q2 : W.cell? ⟨w.heap.size + 1, 2, none⟩ = some (.int .i64 q.count) := hQW.cell 2
      have q3 : W.cell? ⟨w.heap.size + 1, 3, none⟩ = some (.int .i64 q.to) := hQW.cell 3
      have q4 : W.cell? ⟨w.heap.size + 1, 4, none⟩ = some (.slice A4 n4 c4) := hQW.cell 4
      have q5 : W.cell? ⟨w.heap.size + 1, 5, none⟩ = some (.slice A5 n5 c5) := hQW.cell 5
      clear hPW hQW
      go_simp
      with_reducible rfl
    simp only [Act.put]
    try simp only [List.getElem_toArray, List.getElem_cons_succ, List.getElem_cons_zero]
    try simp only [List.setIfInBounds_toArray, List.set_cons_succ, List.set_cons_zero]
    refine wpAnyH_take (i := 7) (v := ?v7_8) rfl (by kernel_rfl) (by kernel_rfl) (by kernel_rfl) (fun _ _ _ h => h) (Or.inl ⟨by rfl, ?y7_8⟩) hS ?r7_8
    case y7_8 =>
      rintro W hH
      have hPW := hP6.below hH hP6.lt
      have hQW := hQ6.below hH hQ6.lt
      have hcx := HX.out W hH
      have k1 := HC1.out W hH
      have k2 := HC2.out W hH
      have p0 : W.cell? ⟨w.heap.size, 0, none⟩ = some (.int .i64 p.fn) := hPW.cell 0
      have p1 : W.cell? ⟨w.heap.size, 1, none⟩ = some (.int .i64 p.addr) := hPW.cell 1
      have p2 : W.cell? ⟨w.heap.size, 2, none⟩ = some (.int .i64 p.count) := hPW.cell 2
      have p3 : W.cell? ⟨w.heap.size, 3, none⟩ = some (.int .i64 p.to) := hPW.cell 3
      have p4 : W.cell? ⟨w.heap.size, 4, none⟩ = some (.slice A2 n2 c2) := hPW.cell 4
      have p5 : W.cell? ⟨w.heap.size, 5, none⟩ = some (.slice A3 n3 c3) := hPW.cell 5
      have q0 : W.cell? ⟨w.heap.size + 1, 0, none⟩ = some (.int .i64 q.fn) := hQW.cell 0
      have q1 : W.cell? ⟨w.heap.size + 1, 1, none⟩ = some (.int .i64 q.addr) := hQW.cell 1
      have q2 : W.cell? ⟨w.heap.size + 1, 2, none⟩ = some (.int .i64 q.count) := hQW.cell 2
      have q3 : W.cell? ⟨w.heap.size + 1, 3, none⟩ = some (.int .i64 q.to) := hQW.cell 3
      have q4 : W.cell? ⟨w.heap.size + 1, 4, none⟩ = some (.slice A4 n4 c4) := hQW.cell 4
      have q5 : W.cell? ⟨w.heap.size + 1, 5, none⟩ = some (.slice A5 n5 c5) := hQW.cell 5
      clear hPW hQW
      go_simp
      with_reducible rfl
    simp only [Act.put]
    try simp only [List.getElem_toArray, List.getElem_cons_succ, List.getElem_cons_zero]
    try simp only [List.setIfInBounds_toArray, List.set_cons_succ, List.set_cons_zero]
    refine wpAnyH_take (i := 8) (v := ?v8_9) rfl (by kernel_rfl) (by kernel_rfl) (by kernel_rfl) (fun _ _ _ h => h) (Or.inl ⟨by rfl, ?y8_9⟩) hS ?r8_9
    case y8_9 =>
      rintro W hH
      have hPW := hP6.below hH hP6.lt
      have hQW := hQ6.below hH hQ6.lt
      have hcx := HX.out W hH
      have k1 := HC1.out W hH
      have k2 := HC2.out W hH
      have p0 : W.cell? ⟨w.heap.size, 0, none⟩ = some (.int .i64 p.fn) := hPW.cell 0
      have p1 : W.cell? ⟨w.heap.size, 1, none⟩ = some (.int .i64 p.addr) := hPW.cell 1
      have p2 : W.cell? ⟨w.heap.size, 2, none⟩ = some (.int .i64 p.count) := hPW.cell 2
      have p3 : W.cell? ⟨w.heap.size, 3, none⟩ = some (.int .i64 p.to) := hPW.cell 3
      have p4 : W.cell? ⟨w.heap.size, 4, none⟩ = some (.slice A2 n2 c2) := hPW.cell 4
      have p5 : W.cell? ⟨w.heap.size, 5, none⟩ = some (.slice A3 n3 c3) := hPW.cell 5
      have q0 : W.cell? ⟨w.heap.size + 1, 0, none⟩ = some (.int .i64 q.fn) := hQW.cell 0
      have q1 : W.cell? ⟨w.heap.size + 1, 1, none⟩ = some (.int .i64 q.addr) := hQW.cell 1
      have q2 : W.cell? ⟨w.heap.size + 1, 2, none⟩ = some (.int .i64 q.count) := hQW.cell 2
      have q3 : W.cell? ⟨w.heap.size + 1, 3, none⟩ = some (.int .i64 q.to) := hQW.cell 3
      have q4 : W.cell? ⟨w.heap.size + 1, 4, none⟩ = some (.slice A4 n4 c4) := hQW.cell 4
      have q5 : W.cell? ⟨w.heap.size + 1, 5, none⟩ = some (.slice A5 n5 c5) := hQW.cell 5
      clear hPW hQW
      go_simp
      with_reducible rfl
    simp only [Act.put]
    try simp only [List.getElem_toArray, List.getElem_cons_succ, List.getElem_cons_zero]
    try simp only [List.setIfInBounds_toArray, List.set_cons_succ, List.set_cons_zero]
    refine wpAnyH_ready (rs := [9]) (by kernel_rfl) (by simp) ?_
    refine AllReadyH.cons rfl (fun K' hK' => ?_) AllReadyH.nil
    go_simp
    refine (HSB.out _ (hb6w.trans (hS.mono hz6))).mono ?_
    rintro e w7 ⟨rfl, hn⟩
    have hS7 := hS.trans (hn.mono hS.size)
    clear hS hn
    go_simp
    refine hK'.out _ _ hS7 (fun hS => ?_)
    clear hK' K'
    refine wpAnyH_take (i := 10) (v := ?v10_10) rfl (by kernel_rfl) (by kernel_rfl) (by kernel_rfl) (fun _ _ _ h => h) (Or.inl ⟨by rfl, ?y10_10⟩) hS ?r10_10
    case y10_10 =>
      rintro W hH
      have hPW := hP6.below hH hP6.lt
      have hQW := hQ6.below hH hQ6.lt
      have hcx := HX.out W hH
      have k1 := HC1.out W hH
      have k2 := HC2.out W hH
      have p0 : W.cell? ⟨w.heap.size, 0, none⟩ = some (.int .i64 p.fn) := hPW.cell 0
      have p1 : W.cell? ⟨w.heap.size, 1, none⟩ = some (.int .i64 p.addr) := hPW.cell 1
      have p2 : W.cell? ⟨w.heap.size, 2, none⟩ = some (.int .i64 p.count) := hPW.cell 2
      have p3 : W.cell? ⟨w.heap.size, 3, none⟩ = some (.int .i64 p.to) := hPW.cell 3
      have p4 : W.cell? ⟨w.heap.size, 4, none⟩ = some (.slice A2 n2 c2) := hPW.cell 4
      have p5 : W.cell? ⟨w.heap.size, 5, none⟩ = some (.slice A3 n3 c3) := hPW.cell 5
      have q0 : W.cell? ⟨w.heap.size + 1, 0, none⟩ = some (.int .i64 q.fn) := hQW.cell 0
      have q1 : W.cell? ⟨w.heap.size + 1, 1, none⟩ = some (.int .i64 q.addr) := hQW.cell 1
      have q2 : W.cell? ⟨w.heap.size + 1, 2, none⟩ = some (.int .i64 q.count) := hQW.cell 2
      have q3 : W.cell? ⟨w.heap.size + 1, 3, none⟩ = some (.int .i64 q.to) := hQW.cell 3
      have q4 : W.cell? ⟨w.heap.size + 1, 4, none⟩ = some (.slice A4 n4 c4) := hQW.cell 4
      have q5 : W.cell? ⟨w.heap.size + 1, 5, none⟩ = some (.slice A5 n5 c5) := hQW.cell 5
      clear hPW hQW
      go_simp
      with_reducible rfl
    simp only [Act.put]
    try simp only [List.getElem_toArray, List.getElem_cons_succ, List.getElem_cons_zero]
    try simp only [List.setIfInBounds_toArray, List.set_cons_succ, List.set_cons_zero]
    refine wpAnyH_take (i := 11) (v := ?v11_11) rfl (by kernel_rfl) (by kernel_rfl) (by kernel_rfl) (fun _ _ _ h => h) (Or.inl ⟨by rfl, ?y11_11⟩) hS ?r11_11
    case y11_11 =>
      rintro W hH
      have hPW := hP6.below hH hP6.lt
      have hQW := hQ6.below hH hQ6.lt
      have hcx := HX.out W hH
      have k1 := HC1.out W hH
      have k2 := HC2.out W hH
      have p0 : W.cell? ⟨w.heap.size, 0, none⟩ = some (.int .i64 p.fn) := hPW.cell 0
      have p1 : W.cell? ⟨w.heap.size, 1, none⟩ = some (.int .i64 p.addr) := hPW.cell 1
      have p2 : W.cell? ⟨w.heap.size, 2, none⟩ = some (.int .i64 p.count) := hPW.cell 2
      have p3 : W.cell? ⟨w.heap.size, 3, none⟩ = some (.int .i64 p.to) := hPW.cell 3
      have p4 : W.cell? ⟨w.heap.size, 4, none⟩ = some (.slice A2 n2 c2) := hPW.cell 4
      have p5 : W.cell? ⟨w.heap.size, 5, none⟩ = some (.slice A3 n3 c3) := hPW.cell 5
      have q0 : W.cell? ⟨w.heap.size + 1, 0, none⟩ = some (.int .i64 q.fn) := hQW.cell 0
      have q1 : W.cell? ⟨w.heap.size + 1, 1, none⟩ = some (.int .i64 q.addr) := hQW.cell 1
      have q2 : W.cell? ⟨w.heap.size + 1, 2, none⟩ = some (.int .i64 q.count) := hQW.cell 2
      have q3 : W.cell? ⟨w.heap.size + 1, 3, none⟩ = some (.int .i64 q.to) := hQW.cell 3
      have q4 : W.cell? ⟨w.heap.size + 1, 4, none⟩ = some (.slice A4 n4 c4) := hQW.cell 4
      have q5 : W.cell? ⟨w.heap.size + 1, 5, none⟩ = some (.slice A5 n5 c5) := hQW.cell 5
      clear hPW hQW
      go_simp
      with_reducible rfl
    simp only [Act.put]
    try simp only [List.getElem_toArray, List.getElem_cons_succ, List.getElem_cons_zero]
    try simp only [List.setIfInBounds_toArray, List.set_cons_succ, List.set_cons_zero]
    refine wpAnyH_take (i := 12) (v := ?v12_12) rfl (by kernel_rfl) (by kernel_rfl) (by kernel_rfl) (fun _ _ _ h => h) (Or.inl ⟨by rfl, ?y12_12⟩) hS ?r12_12
    case y12_12 =>
      rintro W hH
      have hPW := hP6.below hH hP6.lt
      have hQW := hQ6.below hH hQ6.lt
      have hcx := HX.out W hH
      have k1 := HC1.out W hH
      have k2 := HC2.out W hH
      have p0 : W.cell? ⟨w.heap.size, 0, none⟩ = some (.int .i64 p.fn) := hPW.cell 0
      have p1 : W.cell? ⟨w.heap.size, 1, none⟩ = some (.int .i64 p.addr) := hPW.cell 1
      have p2 : W.cell? ⟨w.heap.size, 2, none⟩ = some (.int .i64 p.count) := hPW.cell 2
      have p3 : W.cell? ⟨w.heap.size, 3, none⟩ = some (.int .i64 p.to) := hPW.cell 3
      have p4 : W.cell? ⟨w.heap.size, 4, none⟩ = some (.slice A2 n2 c2) := hPW.cell 4
      have p5 : W.cell? ⟨w.heap.size, 5, none⟩ = some (.slice A3 n3 c3) := hPW.cell 5
      have q0 : W.cell? ⟨w.heap.size + 1, 0, none⟩ = some (.int .i64 q.fn) := hQW.cell 0
      have q1 : W.cell? ⟨w.heap.size + 1, 1, none⟩ = some (.int .i64 q.addr) := hQW.cell 1
      have q2 : W.cell? ⟨w.heap.size + 1, 2, none⟩ = some (.int .i64 q.count) := hQW.cell 2
      have q3 : W.cell? ⟨w.heap.size + 1, 3, none⟩ = some (.int .i64 q.to) := hQW.cell 3
      have q4 : W.cell? ⟨w.heap.size + 1, 4, none⟩ = some (.slice A4 n4 c4) := hQW.cell 4
      have q5 : W.cell? ⟨w.heap.size + 1, 5, none⟩ = some (.slice A5 n5 c5) := hQW.cell 5
      clear hPW hQW
      go_simp
      with_reducible rfl
    simp only [Act.put]
    try simp only [List.getElem_toArray, List.getElem_cons_succ, List.getElem_cons_zero]
    try simp only [List.setIfInBounds_toArray, List.set_cons_succ, List.set_cons_zero]
    refine wpAnyH_take (i := 13) (v := ?v13_13) rfl (by kernel_rfl) (by kernel_rfl) (by kernel_rfl) (fun _ _ _ h => h) (Or.inl ⟨by rfl, ?y13_13⟩) hS ?r13_13
    case y13_13 =>
      rintro W hH
      have hPW := hP6.below hH hP6.lt
      have hQW := hQ6.below hH hQ6.lt
      have hcx := HX.out W hH
      have k1 := HC1.out W hH
      have k2 := HC2.out W hH
      have p0 : W.cell? ⟨w.heap.size, 0, none⟩ = some (.int .i64 p.fn) := hPW.cell 0
      have p1 : W.cell? ⟨w.heap.size, 1, none⟩ = some (.int .i64 p.addr) := hPW.cell 1
      have p2 : W.cell? ⟨w.heap.size, 2, none⟩ = some (.int .i64 p.count) := hPW.cell 2
      have p3 : W.cell? ⟨w.heap.size, 3, none⟩ = some (.int .i64 p.to) := hPW.cell 3
      have p4 : W.cell? ⟨w.heap.size, 4, none⟩ = some (.slice A2 n2 c2) := hPW.cell 4
      have p5 : W.cell? ⟨w.heap.size, 5, none⟩ = some (.slice A3 n3 c3) := hPW.cell 5
      have q0 : W.cell? ⟨w.heap.size + 1, 0, none⟩ = some (.int .i64 q.fn) := hQW.cell 0
      have q1 : W.cell? ⟨w.heap.size + 1, 1, none⟩ = some (.int .i64 q.addr) := hQW.cell 1
      have q2 : W.cell? ⟨w.heap.size + 1, 2, none⟩ = some (.int .i64 q.count) := hQW.cell 2
      have q3 : W.cell? ⟨w.heap.size + 1, 3, none⟩ = some (.int .i64 q.to) := hQW.cell 3
      have q4 : W.cell? ⟨w.heap.size + 1, 4, none⟩ = some (.slice A4 n4 c4) := hQW.cell 4
      have q5 : W.cell? ⟨w.heap.size + 1, 5, none⟩ = some (.slice A5 n5 c5) := hQW.cell 5
      clear hPW hQW
      go_simp
      with_reducible rfl
    simp only [Act.put]
    try simp only [List.getElem_toArray, List.getElem_cons_succ, List.getElem_cons_zero]
    try simp only [List.setIfInBounds_toArray, List.set_cons_succ, List.set_cons_zero]
    refine wpAnyH_take (i := 14) (v := ?v14_14) rfl (by kernel_rfl) (by kernel_rfl) (by kernel_rfl) (fun _ _ _ h => h) (Or.inl ⟨by rfl, ?y14_14⟩) hS ?r14_14
    case y14_14 =>
      rintro W hH
      have hPW := hP6.below hH hP6.lt
      have hQW := hQ6.below hH hQ6.lt
      have hcx := HX.out W hH
      have k1 := HC1.out W hH
      have k2 := HC2.out W hH
      have p0 : W.cell? ⟨w.heap.size, 0, none⟩ = some (.int .i64 p.fn) := hPW.cell 0
      have p1 : W.cell? ⟨w.heap.size, 1, none⟩ = some (.int .i64 p.addr) := hPW.cell 1
      have p2 : W.cell? ⟨w.heap.size, 2, none⟩ = some (.int .i64 p.count) := hPW.cell 2
      have p3 : W.cell? ⟨w.heap.size, 3, none⟩ = some (.int .i64 p.to) := hPW.cell 3
      have p4 : W.cell? ⟨w.heap.size, 4, none⟩ = some (.slice A2 n2 c2) := hPW.cell 4
      have p5 : W.cell? ⟨w.heap.size, 5, none⟩ = some (.slice A3 n3 c3) := hPW.cell 5
      have q0 : W.cell? ⟨w.heap.size + 1, 0, none⟩ = some (.int .i64 q.fn) := hQW.cell 0
      have q1 : W.cell? ⟨w.heap.size + 1, 1, none⟩ = some (.int .i64 q.addr) := hQW.cell 1
      have q2 : W.cell? ⟨w.heap.size + 1, 2, none⟩ = some (.int .i64 q.count) := hQW.cell 2
      have q3 : W.cell? ⟨w.heap.size + 1, 3, none⟩ = some (.int .i64 q.to) := hQW.cell 3
      have q4 : W.cell? ⟨w.heap.size + 1, 4, none⟩ = some (.slice A4 n4 c4) := hQW.cell 4
      have q5 : W.cell? ⟨w.heap.size + 1, 5, none⟩ = some (.slice A5 n5 c5) := hQW.cell 5
      clear hPW hQW
      go_simp
      with_reducible rfl
    simp only [Act.put]
    try simp only [List.getElem_toArray, List.getElem_cons_succ, List.getElem_cons_zero]
    try simp only [List.setIfInBounds_toArray, List.set_cons_succ, List.set_cons_zero]
    refine wpAnyH_take (i := 15) (v := ?v15_15) rfl (by kernel_rfl) (by kernel_rfl) (by kernel_rfl) (fun _ _ _ h => h) (Or.inl ⟨by rfl, ?y15_15⟩) hS ?r15_15
    case y15_15 =>
      rintro W hH
      have hPW := hP6.below hH hP6.lt
      have hQW := hQ6.below hH hQ6.lt
      have hcx := HX.out W hH
      have k1 := HC1.out W hH
      have k2 := HC2.out W hH
      have p0 : W.cell? ⟨w.heap.size, 0, none⟩ = some (.int .i64 p.fn) := hPW.cell 0
      have p1 : W.cell? ⟨w.heap.size, 1, none⟩ = some (.int .i64 p.addr) := hPW.cell 1
      have p2 : W.cell? ⟨w.heap.size, 2, none⟩ = some (.int .i64 p.count) := hPW.cell 2
      have p3 : W.cell? ⟨w.heap.size, 3, none⟩ = some (.int .i64 p.to) := hPW.cell 3
      have p4 : W.cell? ⟨w.heap.size, 4, none⟩ = some (.slice A2 n2 c2) := hPW.cell 4
      have p5 : W.cell? ⟨w.heap.size, 5, none⟩ = some (.slice A3 n3 c3) := hPW.cell 5
      have q0 : W.cell? ⟨w.heap.size + 1, 0, none⟩ = some (.int .i64 q.fn) := hQW.cell 0
      have q1 : W.cell? ⟨w.heap.size + 1, 1, none⟩ = some (.int .i64 q.addr) := hQW.cell 1
      have q2 : W.cell? ⟨w.heap.size + 1, 2, none⟩ = some (.int .i64 q.count) := hQW.cell 2
      have q3 : W.cell? ⟨w.heap.size + 1, 3, none⟩ = some (.int .i64 q.to) := hQW.cell 3
      have q4 : W.cell? ⟨w.heap.size + 1, 4, none⟩ = some (.slice A4 n4 c4) := hQW.cell 4
      have q5 : W.cell? ⟨w.heap.size + 1, 5, none⟩ = some (.slice A5 n5 c5) := hQW.cell 5
      clear hPW hQW
      go_simp
      with_reducible rfl
    simp only [Act.put]
    try simp only [List.getElem_toArray, List.getElem_cons_succ, List.getElem_cons_zero]
    try simp only [List.setIfInBounds_toArray, List.set_cons_succ, List.set_cons_zero]
    refine wpAnyH_take (i := 16) (v := ?v16_16) rfl (by kernel_rfl) (by kernel_rfl) (by kernel_rfl) (fun _ _ _ h => h) (Or.inl ⟨by rfl, ?y16_16⟩) hS ?r16_16
    case y16_16 =>
      rintro W hH
      have hPW := hP6.below hH hP6.lt
      have hQW := hQ6.below hH hQ6.lt
      have hcx := HX.out W hH
      have k1 := HC1.out W hH
      have k2 := HC2.out W hH
      have p0 : W.cell? ⟨w.heap.size, 0, none⟩ = some (.int .i64 p.fn) := hPW.cell 0
      have p1 : W.cell? ⟨w.heap.size, 1, none⟩ = some (.int .i64 p.addr) := hPW.cell 1
      have p2 : W.cell? ⟨w.heap.size, 2, none⟩ = some (.int .i64 p.count) := hPW.cell 2
      have p3 : W.cell? ⟨w.heap.size, 3, none⟩ = some (.int .i64 p.to) := hPW.cell 3
      have p4 : W.cell? ⟨w.heap.size, 4, none⟩ = some (.slice A2 n2 c2) := hPW.cell 4
      have p5 : W.cell? ⟨w.heap.size, 5, none⟩ = some (.slice A3 n3 c3) := hPW.cell 5
      have q0 : W.cell? ⟨w.heap.size + 1, 0, none⟩ = some (.int .i64 q.fn) := hQW.cell 0
      have q1 : W.cell? ⟨w.heap.size + 1, 1, none⟩ = some (.int .i64 q.addr) := hQW.cell 1
      have q2 : W.cell? ⟨w.heap.size + 1, 2, none⟩ = some (.int .i64 q.count) := hQW.cell 2
      have q3 : W.cell? ⟨w.heap.size + 1, 3, none⟩ = some (.int .i64 q.to) := hQW.cell 3
      have q4 : W.cell? ⟨w.heap.size + 1, 4, none⟩ = some (.slice A4 n4 c4) := hQW.cell 4
      have q5 : W.cell? ⟨w.heap.size + 1, 5, none⟩ = some (.slice A5 n5 c5) := hQW.cell 5
      clear hPW hQW
      go_simp
      with_reducible rfl
    simp only [Act.put]
    try simp only [List.getElem_toArray, List.getElem_cons_succ, List.getElem_cons_zero]
    try simp only [List.setIfInBounds_toArray, List.set_cons_succ, List.set_cons_zero]
    refine wpAnyH_take (i := 17) (v := ?v17_17) rfl (by kernel_rfl) (by kernel_rfl) (by kernel_rfl) (fun _ _ _ h => h) (Or.inl ⟨by rfl, ?y17_17⟩) hS ?r17_17
    case y17_17 =>
      rintro W hH
      have hPW := hP6.below hH hP6.lt
      have hQW := hQ6.below hH hQ6.lt
      have hcx := HX.out W hH
      have k1 := HC1.out W hH
      have k2 := HC2.out W hH
      have p0 : W.cell? ⟨w.heap.size, 0, none⟩ = some (.int .i64 p.fn) := hPW.cell 0
      have p1 : W.cell? ⟨w.heap.size, 1, none⟩ = some (.int .i64 p.addr) := hPW.cell 1
      have p2 : W.cell? ⟨w.heap.size, 2, none⟩ = some (.int .i64 p.count) := hPW.cell 2
      have p3 : W.cell? ⟨w.heap.size, 3, none⟩ = some (.int .i64 p.to) := hPW.cell 3
      have p4 : W.cell? ⟨w.heap.size, 4, none⟩ = some (.slice A2 n2 c2) := hPW.cell 4
      have p5 : W.cell? ⟨w.heap.size, 5, none⟩ = some (.slice A3 n3 c3) := hPW.cell 5
      have q0 : W.cell? ⟨w.heap.size + 1, 0, none⟩ = some (.int .i64 q.fn) := hQW.cell 0
      have q1 : W.cell? ⟨w.heap.size + 1, 1, none⟩ = some (.int .i64 q.addr) := hQW.cell 1
      have q2 : W.cell? ⟨w.heap.size + 1, 2, none⟩ = some (.int .i64 q.count) := hQW.cell 2
      have q3 : W.cell? ⟨w.heap.size + 1, 3, none⟩ = some (.int .i64 q.to) := hQW.cell 3
      have q4 : W.cell? ⟨w.heap.size + 1, 4, none⟩ = some (.slice A4 n4 c4) := hQW.cell 4
      have q5 : W.cell? ⟨w.heap.size + 1, 5, none⟩ = some (.slice A5 n5 c5) := hQW.cell 5
      clear hPW hQW
      go_simp
      with_reducible rfl
    simp only [Act.put]
    try simp only [List.getElem_toArray, List.getElem_cons_succ, List.getElem_cons_zero]
    try simp only [List.setIfInBounds_toArray, List.set_cons_succ, List.set_cons_zero]
    refine wpAnyH_take (i := 18) (v := ?v18_18) rfl (by kernel_rfl) (by kernel_rfl) (by kernel_rfl) (fun _ _ _ h => h) (Or.inl ⟨by rfl, ?y18_18⟩) hS ?r18_18
    case y18_18 =>
      rintro W hH
      have hPW := hP6.below hH hP6.lt
      have hQW := hQ6.below hH hQ6.lt
      have hcx := HX.out W hH
      have k1 := HC1.out W hH
      have k2 := HC2.out W hH
      have p0 : W.cell? ⟨w.heap.size, 0, none⟩ = some (.int .i64 p.fn) := hPW.cell 0
      have p1 : W.cell? ⟨w.heap.size, 1, none⟩ = some (.int .i64 p.addr) := hPW.cell 1
      have p2 : W.cell? ⟨w.heap.size, 2, none⟩ = some (.int .i64 p.count) := hPW.cell 2
      have p3 : W.cell? ⟨w.heap.size, 3, none⟩ = some (.int .i64 p.to) := hPW.cell 3
      have p4 : W.cell? ⟨w.heap.size, 4, none⟩ = some (.slice A2 n2 c2) := hPW.cell 4
      have p5 : W.cell? ⟨w.heap.size, 5, none⟩ = some (.slice A3 n3 c3) := hPW.cell 5
      have q0 : W.cell? ⟨w.heap.size + 1, 0, none⟩ = some (.int .i64 q.fn) := hQW.cell 0
      have q1 : W.cell? ⟨w.heap.size + 1, 1, none⟩ = some (.int .i64 q.addr) := hQW.cell 1
      have q2 : W.cell? ⟨w.heap.size + 1, 2, none⟩ = some (.int .i64 q.count) := hQW.cell 2
      have q3 : W.cell? ⟨w.heap.size + 1, 3, none⟩ = some (.int .i64 q.to) := hQW.cell 3
      have q4 : W.cell? ⟨w.heap.size + 1, 4, none⟩ = some (.slice A4 n4 c4) := hQW.cell 4
      have q5 : W.cell? ⟨w.heap.size + 1, 5, none⟩ = some (.slice A5 n5 c5) := hQW.cell 5
      clear hPW hQW
      go_simp
      with_reducible rfl
    simp only [Act.put]
    try simp only [List.getElem_toArray, List.getElem_cons_succ, List.getElem_cons_zero]
    try simp only [List.setIfInBounds_toArray, List.set_cons_succ, List.set_cons_zero]
    refine wpAnyH_take (i := 19) (v := ?v19_19) rfl (by kernel_rfl) (by kernel_rfl) (by kernel_rfl) (fun _ _ _ h => h) (Or.inl ⟨by rfl, ?y19_19⟩) hS ?r19_19
    case y19_19 =>
      rintro W hH
      have hPW := hP6.below hH hP6.lt
      have hQW := hQ6.below hH hQ6.lt
      have hcx := HX.out W hH
      have k1 := HC1.out W hH
      have k2 := HC2.out W hH
      have p0 : W.cell? ⟨w.heap.size, 0, none⟩ = some (.int .i64 p.fn) := hPW.cell 0
      have p1 : W.cell? ⟨w.heap.size, 1, none⟩ = some (.int .i64 p.addr) := hPW.cell 1
      have p2 : W.cell? ⟨w.heap.size, 2, none⟩ = some (.int .i64 p.count) := hPW.cell 2
      have p3 : W.cell? ⟨w.heap.size, 3, none⟩ = some (.int .i64 p.to) := hPW.cell 3
      have p4 : W.cell? ⟨w.heap.size, 4, none⟩ = some (.slice A2 n2 c2) := hPW.cell 4
      have p5 : W.cell? ⟨w.heap.size, 5, none⟩ = some (.slice A3 n3 c3) := hPW.cell 5
      have q0 : W.cell? ⟨w.heap.size + 1, 0, none⟩ = some (.int .i64 q.fn) := hQW.cell 0
      have q1 : W.cell? ⟨w.heap.size + 1, 1, none⟩ = some (.int .i64 q.addr) := hQW.cell 1
      have q2 : W.cell? ⟨w.heap.size + 1, 2, none⟩ = some (.int .i64 q.count) := hQW.cell 2
      have q3 : W.cell? ⟨w.heap.size + 1, 3, none⟩ = some (.int .i64 q.to) := hQW.cell 3
      have q4 : W.cell? ⟨w.heap.size + 1, 4, none⟩ = some (.slice A4 n4 c4) := hQW.cell 4
      have q5 : W.cell? ⟨w.heap.size + 1, 5, none⟩ = some (.slice A5 n5 c5) := hQW.cell 5
      clear hPW hQW
      go_simp
      with_reducible rfl
    simp only [Act.put]
    try simp only [List.getElem_toArray, List.getElem_cons_succ, List.getElem_cons_zero]
    try simp only [List.setIfInBounds_toArray, List.set_cons_succ, List.set_cons_zero]
    refine wpAnyH_take (i := 20) (v := ?v20_20) rfl (by kernel_rfl) (by kernel_rfl) (by kernel_rfl) (fun _ _ _ h => h) (Or.inl ⟨by rfl, ?y20_20⟩) hS ?r20_20
    case y20_20 =>
      rintro W hH
      have hPW := hP6.below hH hP6.lt
      have hQW := hQ6.below hH hQ6.lt
      have hcx := HX.out W hH
      have k1 := HC1.out W hH
      have k2 := HC2.out W hH
      have p0 : W.cell? ⟨w.heap.size, 0, none⟩ = some (.int .i64 p.fn) := hPW.cell 0
      have p1 : W.cell? ⟨w.heap.size, 1, none⟩ = some (.int .i64 p.addr) := hPW.cell 1
      have p2 : W.cell? ⟨w.heap.size, 2, none⟩ = some (.int .i64 p.count) := hPW.cell 2
      have p3 : W.cell? ⟨w.heap.size, 3, none⟩ = some (.int .i64 p.to) := hPW.cell 3
      have p4 : W.cell? ⟨w.heap.size, 4, none⟩ = some (.slice A2 n2 c2) := hPW.cell 4
      have p5 : W.cell? ⟨w.heap.size, 5, none⟩ = some (.slice A3 n3 c3) := hPW.cell 5
      have q0 : W.cell? ⟨w.heap.size + 1, 0, none⟩ = some (.int .i64 q.fn) := hQW.cell 0
      have q1 : W.cell? ⟨w.heap.size + 1, 1, none⟩ = some (.int .i64 q.addr) := hQW.cell 1
      have q2 : W.cell? ⟨w.heap.size + 1, 2, none⟩ = some (.int .i64 q.count) := hQW.cell 2
      have q3 : W.cell? ⟨w.heap.size + 1, 3, none⟩ = some (.int .i64 q.to) := hQW.cell 3
      have q4 : W.cell? ⟨w.heap.size + 1, 4, none⟩ = some (.slice A4 n4 c4) := hQW.cell 4
      have q5 : W.cell? ⟨w.heap.size + 1, 5, none⟩ = some (.slice A5 n5 c5) := hQW.cell 5
      clear hPW hQW
      go_simp
      with_reducible rfl
    simp only [Act.put]
    try simp only [List.getElem_toArray, List.getElem_cons_succ, List.getElem_cons_zero]
    try simp only [List.setIfInBounds_toArray, List.set_cons_succ, List.set_cons_zero]
    refine wpAnyH_take (i := 21) (v := ?v21_21) rfl (by kernel_rfl) (by kernel_rfl) (by kernel_rfl) (fun _ _ _ h => h) (Or.inl ⟨by rfl, ?y21_21⟩) hS ?r21_21
    case y21_21 =>
      rintro W hH
      have hPW := hP6.below hH hP6.lt
      have hQW := hQ6.below hH hQ6.lt
      have hcx := HX.out W hH
      have k1 := HC1.out W hH
      have k2 := HC2.out W hH
      have p0 : W.cell? ⟨w.heap.size, 0, none⟩ = some (.int .i64 p.fn) := hPW.cell 0
      have p1 : W.cell? ⟨w.heap.size, 1, none⟩ = some (.int .i64 p.addr) := hPW.cell 1
      have p2 : W.cell? ⟨w.heap.size, 2, none⟩ = some (.int .i64 p.count) := hPW.cell 2
      have p3 : W.cell? ⟨w.heap.size, 3, none⟩ = some (.int .i64 p.to) := hPW.cell 3
      have p4 : W.cell? ⟨w.heap.size, 4, none⟩ = some (.slice A2 n2 c2) := hPW.cell 4
      have p5 : W.cell? ⟨w.heap.size, 5, none⟩ = some (.slice A3 n3 c3) := hPW.cell 5
      have q0 : W.cell? ⟨w.heap.size + 1, 0, none⟩ = some (.int .i64 q.fn) := hQW.cell 0
      have q1 : W.cell? ⟨w.heap.size + 1, 1, none⟩ = some (.int .i64 q.addr) := hQW.cell 1
      have q2 : W.cell? ⟨w.heap.size + 1, 2, none⟩ = some (.int .i64 q.count) := hQW.cell 2
      have q3 : W.cell? ⟨w.heap.size + 1, 3, none⟩ = some (.int .i64 q.to) := hQW.cell 3
      have q4 : W.cell? ⟨w.heap.size + 1, 4, none⟩ = some (.slice A4 n4 c4) := hQW.cell 4
      have q5 : W.cell? ⟨w.heap.size + 1, 5, none⟩ = some (.slice A5 n5 c5) := hQW.cell 5
      clear hPW hQW
      go_simp
      with_reducible rfl
    simp only [Act.put]
    try simp only [List.getElem_toArray, List.getElem_cons_succ, List.getElem_cons_zero]
    try simp only [List.setIfInBounds_toArray, List.set_cons_succ, List.set_cons_zero]
    refine wpAnyH_take (i := 22) (v := ?v22_22) rfl (by kernel_rfl) (by kernel_rfl) (by kernel_rfl) (fun _ _ _ h => h) (Or.inl ⟨by rfl, ?y22_22⟩) hS ?r22_22
    case y22_22 =>
      rintro W hH
      have hPW := hP6.below hH hP6.lt
      have hQW := hQ6.below hH hQ6.lt
      have hcx := HX.out W hH
      have k1 := HC1.out W hH
      have k2 := HC2.out W hH
      have p0 : W.cell? ⟨w.heap.size, 0, none⟩ = some (.int .i64 p.fn) := hPW.cell 0
      have p1 : W.cell? ⟨w.heap.size, 1, none⟩ = some (.int .i64 p.addr) := hPW.cell 1
      have p2 : W.cell? ⟨w.heap.size, 2, none⟩ = some (.int .i64 p.count) := hPW.cell 2
      have p3 : W.cell? ⟨w.heap.size, 3, none⟩ = some (.int .i64 p.to) := hPW.cell 3
      have p4 : W.cell? ⟨w.heap.size, 4, none⟩ = some (.slice A2 n2 c2) := hPW.cell 4
      have p5 : W.cell? ⟨w.heap.size, 5, none⟩ = some (.slice A3 n3 c3) := hPW.cell 5
      have q0 : W.cell? ⟨w.heap.size + 1, 0, none⟩ = some (.int .i64 q.fn) := hQW.cell 0
      have q1 : W.cell? ⟨w.heap.size + 1, 1, none⟩ = some (.int .i64 q.addr) := hQW.cell 1
      have q2 : W.cell? ⟨w.heap.size + 1, 2, none⟩ = some (.int .i64 q.count) := hQW.cell 2
      have q3 : W.cell? ⟨w.heap.size + 1, 3, none⟩ = some (.int .i64 q.to) := hQW.cell 3
      have q4 : W.cell? ⟨w.heap.size + 1, 4, none⟩ = some (.slice A4 n4 c4) := hQW.cell 4
      have q5 : W.cell? ⟨w.heap.size + 1, 5, none⟩ = some (.slice A5 n5 c5) := hQW.cell 5
      clear hPW hQW
      go_simp
      with_reducible rfl
    simp only [Act.put]
    try simp only [List.getElem_toArray, List.getElem_cons_succ, List.getElem_cons_zero]
    try simp only [List.setIfInBounds_toArray, List.set_cons_succ, List.set_cons_zero]
    refine wpAnyH_take (i := 23) (v := ?v23_23) rfl (by kernel_rfl) (by kernel_rfl) (by kernel_rfl) (fun _ _ _ h => h) (Or.inl ⟨by rfl, ?y23_23⟩) hS ?r23_23
    case y23_23 =>
      rintro W hH
      have hPW := hP6.below hH hP6.lt
      have hQW := hQ6.below hH hQ6.lt
      have hcx := HX.out W hH
      have k1 := HC1.out W hH
      have k2 := HC2.out W hH
      have p0 : W.cell? ⟨w.heap.size, 0, none⟩ = some (.int .i64 p.fn) := hPW.cell 0
      have p1 : W.cell? ⟨w.heap.size, 1, none⟩ = some (.int .i64 p.addr) := hPW.cell 1
      have p2 : W.cell? ⟨w.heap.size, 2, none⟩ = some (.int .i64 p.count) := hPW.cell 2
      have p3 : W.cell? ⟨w.heap.size, 3, none⟩ = some (.int .i64 p.to) := hPW.cell 3
      have p4 : W.cell? ⟨w.heap.size, 4, none⟩ = some (.slice A2 n2 c2) := hPW.cell 4
      have p5 : W.cell? ⟨w.heap.size, 5, none⟩ = some (.slice A3 n3 c3) := hPW.cell 5
      have q0 : W.cell? ⟨w.heap.size + 1, 0, none⟩ = some (.int .i64 q.fn) := hQW.cell 0
      have q1 : W.cell? ⟨w.heap.size + 1, 1, none⟩ = some (.int .i64 q.addr) := hQW.cell 1
      have q2 : W.cell? ⟨w.heap.size + 1, 2, none⟩ = some (.int .i64 q.count) := hQW.cell 2
      have q3 : W.cell? ⟨w.heap.size + 1, 3, none⟩ = some (.int .i64 q.to) := hQW.cell 3
      have q4 : W.cell? ⟨w.heap.size + 1, 4, none⟩ = some (.slice A4 n4 c4) := hQW.cell 4
      have q5 : W.cell? ⟨w.heap.size + 1, 5, none⟩ = some (.slice A5 n5 c5) := hQW.cell 5
      clear hPW hQW
      go_simp
      with_reducible rfl
    simp only [Act.put]
    try simp only [List.getElem_toArray, List.getElem_cons_succ, List.getElem_cons_zero]
    try simp only [List.setIfInBounds_toArray, List.set_cons_succ, List.set_cons_zero]
    refine wpAnyH_done (by kernel_rfl) ?_ _
    go_wp2_with fail
    go_ret
    exact ⟨rfl, hb6w.trans (hS.mono hz6)⟩
end Go.Proofs.YtflbiichdjhaeaaDoor
