/- The law's ask and alive. -/
import Derived.Test.YtcipleanckeoaaaDoorBusPlay
import Derived.Test.YtcipleanckeoaaaDoorBusLawP
import Derived.Test.YtcipleanckeoaaaDoorPduFrom
namespace Go.Proofs.YtcipleanckeoaaaDoor
open Go.RowKit
attribute [local go_sem] Oper.semAt_some
set_option linter.unusedVariables false
set_option linter.unusedSimpArgs false
set_option maxRecDepth 100000
theorem askA_at (w : World) (addr count : Int) : AskAt w (.agg #[.int .i64 3, .int .i64 addr, .int .i64 count, .int .i64 0, .slice none 0 0, .slice none 0 0]) (askA addr count) := ⟨none, 0, 0, none, 0, 0, rfl, SlB.nil _ _, SlI.nil _ _ _⟩
theorem askL_8 (addr count : Int) : Byte8 (askL (askA addr count)) := by
  unfold askL
  split
  · rename_i h
    have hc := (may_cases _ h)
    unfold askA at hc
    dsimp only at hc
    have : bytesP (askA addr count) = 3 :: twoI addr ++ twoI count := rfl
    rw [this]
    unfold twoI
    intro x hx
    simp at hx
    omega
  · intro x hx; cases hx
set_option maxHeartbeats 1000000 in
theorem ask_any (unit addr count : Int) (w : World) (hT : LimT w) :
    Calls Tryd.prog 18 #[.int .i64 unit, .int .i64 addr, .int .i64 count] w (SlPost w ((rtuB unit (askL (askA addr count))).getD [])) := by
  have HB := Lib.hid (bytes_own _ _ w hT (askA_at w addr count) (fun x hx => by cases hx))
  go_in
  go_wp2_with fail
  refine HB.out.mono ?_
  rintro e w1 ⟨A1, n1, c1, rfl, s1, b1⟩
  have H2 := Lib.hid (rtuf_any unit A1 n1 c1 _ w1 s1 (askL_8 addr count))
  have HB1 := Lib.hid b1
  obtain ⟨ev, hev⟩ : ∃ z, errV (mayP (askA addr count)) = z := ⟨_, rfl⟩
  rw [hev]
  obtain ⟨er, her⟩ : ∃ z, (if (rtuB unit (askL (askA addr count))).isSome then (0 : Int) else 200) = z := ⟨_, rfl⟩
  have HER := Lib.hid her
  clear s1 b1 hev her
  go_wp2_with fail
  refine H2.out.mono ?_
  rintro e w2 ⟨A2, n2, c2, rfl, s2, b2, _⟩
  rw [HER.out]
  have H3 := Lib.hid (And.intro s2 (HB1.out.trans (b2.mono HB1.out.size)))
  clear s2 b2
  go_wp2_with fail
  go_ret
  exact ⟨A2, n2, c2, rfl, H3.out.1, H3.out.2⟩
theorem play_calls (t : Int) (A : Option Addr) (n c : Nat) (req : List Int) (L : Option Addr) (nl cl : Nat) (l : List ActP) (w : World) (hT : LimT w) (hN : NamesT w) (hS : SlI w w.heap.size .u8 A n c req) (hn : n ≤ 1000) (h8 : Byte8 req) (hA : ActsI w L nl cl l) (hok : ActsOk l) (h20 : nl ≤ 20)
    (ht : 0 ≤ t ∧ t ≤ 2305843009213693952) (hm : l.all mayA = true) :
    Calls Tryd.prog 13 #[.int .i64 t, .slice A n c, .slice L nl cl] w fun e w' => ∃ R nr cr rs, e = .returned (.tuple #[.slice R nr cr, .int .i64 0]) ∧ PcsI w' R nr cr rs ∧ SortedOf (playL t req l) rs ∧ Below w.heap.size w w' :=
  (callsIn_wide (n := 7)).1 (play_ok t A n c req L nl cl l w hT hN hS hn h8 hA hok h20 ht hm)
/-- One act in a literal. -/
theorem acts_lit {w : World} {g : Nat} {a : ActP} {Ar : Option Addr} {nr cr : Nat} {D : Option Addr} {nd cd : Nat} (h : Held w g 29 (a.cells Ar nr cr D nd cd)) (h1 : SlI w w.heap.size .u16 Ar nr cr a.regs) (h2 : SlI w w.heap.size .u8 D nd cd a.data) : ActsI w (some ⟨g, 0, none⟩) 1 1 [a] := by
  refine ⟨rfl, Nat.le_refl _, by unfold maxLen; omega, (fun e => by cases e), fun _ => ⟨g, 0, rfl, h.lt, fun i x hx => ?_⟩⟩
  match i, hx with
  | 0, hx =>
    obtain rfl : a = x := by simpa using hx
    exact ⟨Ar, nr, cr, D, nd, cd, fun j v hv => by
      have e : (⟨g, 0 + 0 * 9 + j, none⟩ : Addr) = ⟨g, j, none⟩ := by simp
      rw [e, h.cell]; simpa using hv, h1, h2⟩
  | i + 1, hx => simp at hx
theorem ok_act17 (wait gap : Int) (h : (0 ≤ wait ∧ wait ≤ 5) ∧ 0 ≤ gap ∧ gap ≤ 5) : (act17 wait gap).ok := by
  unfold ActP.ok act17
  dsimp only
  refine ⟨by omega, by omega, by omega, (fun x hx => ?_), (fun x hx => by cases hx), by omega⟩
  obtain rfl : x = 9 := by simpa using hx
  omega
theorem ask17_8 : Byte8 ask17 := by unfold Byte8; decide
theorem ans17_8 : Byte8 ans17 := by unfold Byte8; decide
/-- Play of one act. -/
theorem play17 (wait gap : Int) (h : (0 ≤ wait ∧ wait ≤ 5) ∧ 0 ≤ gap ∧ gap ≤ 5) (hm : mayA (act17 wait gap) = true) (zs : List (Int × List Int)) (hz : playL 10 ask17 [act17 wait gap] = zs) (hs : SortedOf zs zs) (A : Option Addr) (n c g r : Nat) (w : World) (hT : LimT w) (hN : NamesT w) (hS : SlI w w.heap.size .u8 A n c ask17)
    (hg : Held w g 29 #[.int .i64 1, .int .i64 wait, .int .i64 gap, .slice (some ⟨r, 0, none⟩) 1 1, .int .i64 0, .int .i64 0, .int .i64 0, .int .u8 0, .slice none 0 0]) (hr : SlI w w.heap.size .u16 (some ⟨r, 0, none⟩) 1 1 [9]) :
    Calls Tryd.prog 13 #[.int .i64 10, .slice A n c, .slice (some ⟨g, 0, none⟩) 1 1] w fun e w' => ∃ R cr, e = .returned (.tuple #[.slice R zs.length cr, .int .i64 0]) ∧ PcsI w' R zs.length cr zs ∧ Below w.heap.size w w' := by
  refine (play_calls 10 A n c ask17 (some ⟨g, 0, none⟩) 1 1 [act17 wait gap] w hT hN hS (by have := hS.1; have := ask17_len; omega) ask17_8 (acts_lit (a := act17 wait gap) hg hr (SlI.nil _ _ _)) (fun a ha => by rw [List.mem_singleton.mp ha]; exact ok_act17 wait gap h) (by omega) (by omega) (by simp [hm])).mono ?_
  rintro e w' ⟨R, nr, cr, rs, rfl, h1, h2, h3⟩
  rw [hz] at h2
  obtain rfl := h2.one hs
  obtain rfl := h1.1
  exact ⟨R, cr, rfl, h1, h3⟩
theorem pcs_get {w : World} {R : Option Addr} {n c : Nat} {rs : List (Int × List Int)} (h : PcsI w R n c rs) (hn : 0 < n) : ∃ g, R = some ⟨g, 0, none⟩ ∧ g < w.heap.size ∧ ∀ (i : Nat) (z : Int × List Int), rs[i]? = some z → ∃ D nd cd, w.cell? ⟨g, i * 2, none⟩ = some (.int .i64 z.1) ∧ w.cell? ⟨g, i * 2 + 1, none⟩ = some (.slice D nd cd) ∧ SlI w w.heap.size .u8 D nd cd z.2 := h.2.2.2.2 hn
set_option maxHeartbeats 4000000 in
theorem alive22_any (w : World) (hT : LimT w) (hN : NamesT w) : Calls Tryd.prog 21 #[] w fun e w' => e = .returned (.bool true) ∧ Below w.heap.size w w' := by
  have HA := Lib.hid (fun (V : World) (h : Below w.heap.size w V) => ask_any 17 0 1 V (hT.up h))
  simp only [ask17_rtu] at HA
  have HW := Lib.hid (fun (V : World) (h : Below w.heap.size w V) => And.intro (hT.up h) (hN.up h))
  clear hT hN
  go_in
  go_wp2_with fail
  refine (HA.out _ (Below.refl _ _)).mono ?_
  rintro e w1 ⟨A1, n1, c1, rfl, s1, b1⟩
  obtain ⟨v1, hv1⟩ : ∃ Y, w1.alloc (.cells #[.int .u16 9] 45) = Y := ⟨_, rfl⟩
  obtain ⟨r1, hr1⟩ : ∃ q, w1.heap.size = q := ⟨_, rfl⟩
  obtain ⟨x1, hx1⟩ : ∃ Y, v1.alloc (.cells #[.int .i64 1, .int .i64 5, .int .i64 0, .slice (some ⟨r1, 0, none⟩) 1 1, .int .i64 0, .int .i64 0, .int .i64 0, .int .u8 0, .slice none 0 0] 29) = Y := ⟨_, rfl⟩
  obtain ⟨g1, hg1⟩ : ∃ q, v1.heap.size = q := ⟨_, rfl⟩
  have bv1 : Below w1.heap.size w1 v1 := by rw [← hv1]; exact (Below.refl _ w1).alloc (Nat.le_refl _) _
  have bx1 : Below v1.heap.size v1 x1 := by rw [← hx1]; exact (Below.refl _ v1).alloc (Nat.le_refl _) _
  have bb1 := bv1.trans (bx1.mono bv1.size)
  have bw1 := b1.trans (bb1.mono b1.size)
  have lr1 : SlI x1 x1.heap.size .u16 (some ⟨r1, 0, none⟩) 1 1 [9] := by
    have h : SlI v1 v1.heap.size .u16 (some ⟨r1, 0, none⟩) 1 1 [9] := by rw [← hv1, ← hr1]; exact SlI.of_lit rfl rfl (by omega)
    exact h.up bx1
  have lg1 : Held x1 g1 29 #[.int .i64 1, .int .i64 5, .int .i64 0, .slice (some ⟨r1, 0, none⟩) 1 1, .int .i64 0, .int .i64 0, .int .i64 0, .int .u8 0, .slice none 0 0] := by rw [← hx1, ← hg1]; exact Held.new v1 _ _
  have HP1 := Lib.hid (play17 5 0 (by omega) may_act17.1 [(15, ans17)] play17a (SortedOf.single _) A1 n1 c1 g1 r1 x1 (HW.out x1 bw1).1 (HW.out x1 bw1).2 (s1.up bb1) lg1 lr1)
  have HB1 := Lib.hid bw1
  clear bv1 bx1 bb1 bw1 lr1 lg1 s1 b1
  go_wp2_with fail
  clear hv1 hr1 hx1 hg1
  refine HP1.out.mono ?_
  rintro e y1 ⟨R1, cr1, rfl, p1, q1⟩
  have HQ1 := Lib.hid (And.intro p1 (HB1.out.trans (q1.mono HB1.out.size)))
  clear p1 q1
  go_wp2_with fail
  refine (HA.out _ HQ1.out.2).mono ?_
  rintro e w2 ⟨A2, n2, c2, rfl, s2, b2'⟩
  have HP12 := Lib.hid (HQ1.out.1.up b2')
  have b2 : Below w.heap.size w w2 := HQ1.out.2.trans (b2'.mono HQ1.out.2.size)
  clear b2'
  obtain ⟨v2, hv2⟩ : ∃ Y, w2.alloc (.cells #[.int .u16 9] 45) = Y := ⟨_, rfl⟩
  obtain ⟨r2, hr2⟩ : ∃ q, w2.heap.size = q := ⟨_, rfl⟩
  obtain ⟨x2, hx2⟩ : ∃ Y, v2.alloc (.cells #[.int .i64 1, .int .i64 0, .int .i64 2, .slice (some ⟨r2, 0, none⟩) 1 1, .int .i64 0, .int .i64 0, .int .i64 0, .int .u8 0, .slice none 0 0] 29) = Y := ⟨_, rfl⟩
  obtain ⟨g2, hg2⟩ : ∃ q, v2.heap.size = q := ⟨_, rfl⟩
  have bv2 : Below w2.heap.size w2 v2 := by rw [← hv2]; exact (Below.refl _ w2).alloc (Nat.le_refl _) _
  have bx2 : Below v2.heap.size v2 x2 := by rw [← hx2]; exact (Below.refl _ v2).alloc (Nat.le_refl _) _
  have bb2 := bv2.trans (bx2.mono bv2.size)
  have bw2 := b2.trans (bb2.mono b2.size)
  have lr2 : SlI x2 x2.heap.size .u16 (some ⟨r2, 0, none⟩) 1 1 [9] := by
    have h : SlI v2 v2.heap.size .u16 (some ⟨r2, 0, none⟩) 1 1 [9] := by rw [← hv2, ← hr2]; exact SlI.of_lit rfl rfl (by omega)
    exact h.up bx2
  have lg2 : Held x2 g2 29 #[.int .i64 1, .int .i64 0, .int .i64 2, .slice (some ⟨r2, 0, none⟩) 1 1, .int .i64 0, .int .i64 0, .int .i64 0, .int .u8 0, .slice none 0 0] := by rw [← hx2, ← hg2]; exact Held.new v2 _ _
  have HP2 := Lib.hid (play17 0 2 (by omega) may_act17.2 [(10, ans17.take 3), (12, ans17.drop 3)] play17b (SortedOf.two _ _ (by decide)) A2 n2 c2 g2 r2 x2 (HW.out x2 bw2).1 (HW.out x2 bw2).2 (s2.up bb2) lg2 lr2)
  have HB2 := Lib.hid bw2
  have HBX2 := Lib.hid bb2
  clear bv2 bx2 bb2 bw2 lr2 lg2 s2 b2
  go_wp2_with fail
  clear hv2 hr2 hx2 hg2
  refine HP2.out.mono ?_
  rintro e y2 ⟨R2, cr2, rfl, p2, q2⟩
  obtain ⟨ga, hRa, _, ha⟩ := pcs_get (HP12.out.up ((HBX2.out.trans (q2.mono HBX2.out.size)))) (by simp)
  obtain ⟨gb, hRb, _, hb⟩ := pcs_get p2 (by simp)
  obtain ⟨D1, nd1, cd1, e10, e11, e12⟩ := ha 0 _ rfl
  obtain ⟨D2, nd2, cd2, e20, e21, e22⟩ := hb 0 _ rfl
  obtain ⟨D3, nd3, cd3, e30, e31, e32⟩ := hb 1 _ rfl
  have l1 : nd1 = 7 := e12.1.symm.trans ans17_len
  have l2 : nd2 = 3 := by have := e22.1; rw [List.length_take, ans17_len] at this; omega
  have l3 : nd3 = 4 := by have := e32.1; rw [List.length_drop, ans17_len] at this; omega
  subst l1 l2 l3 hRa hRb
  have h5 := e12.take 5 (by omega)
  rw [ans17_five] at h5
  have kp := conv_sli h5
  rw [show strOfNums [17, 3, 2, 0, 9] = ⟨#[17, 3, 2, 0, 9]⟩ by decide] at kp
  have hc5 : 7 ≤ cd1 := e12.2.1
  simp only [Nat.zero_mul, Nat.zero_add, Nat.one_mul, Nat.reduceAdd] at e10 e11 e20 e21 e30 e31
  have HQ2 := Lib.hid (HB2.out.trans (q2.mono HB2.out.size))
  clear p2 q2 ha hb e12 e22 e32 h5
  go_wp2_with fail
  go_ret
  exact ⟨rfl, HQ2.out⟩
end Go.Proofs.YtcipleanckeoaaaDoor
