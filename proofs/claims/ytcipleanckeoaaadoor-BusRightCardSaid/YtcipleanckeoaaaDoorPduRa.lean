/- pdu.ReadAnswer: what the ways share. -/
import Derived.Test.YtcipleanckeoaaaDoorPduBase
import Derived.Test.YtcipleanckeoaaaDoorPduFrom
import Derived.Test.YtcipleanckeoaaaDoorPduAlive
import Derived.Deep.Cut
import Derived.IntWalk
namespace Go.Proofs.YtcipleanckeoaaaDoor
open Go.RowKit
set_option linter.unusedVariables false

/-- What ReadAnswer answers. -/
def RaPost (w : World) (a : AskP) (b : List Int) (e : Ending) (w' : World) : Prop := ∃ v, e = .returned (.tuple #[v, .int .i64 (errV (readAnswerP a b).isSome)]) ∧ RepAt w' v ((readAnswerP a b).getD rep0) ∧ Below w.heap.size w w'
theorem ra_none {w w' : World} {a : AskP} {b : List Int} (h : readAnswerP a b = none) (hb : Below w.heap.size w w') : RaPost w a b (.returned (.tuple #[.agg #[.int .i64 0, .int .i64 0, .slice none 0 0, .slice none 0 0], .int .i64 190])) w' :=
  ⟨_, by rw [h]; rfl, by rw [h]; exact ⟨none, 0, 0, none, 0, 0, rfl, SlB.nil _ _, SlI.nil _ _ _⟩, hb⟩
theorem ra_some {w w' : World} {a : AskP} {b : List Int} {r : RepP} {v : Value} (h : readAnswerP a b = some r) (hv : RepAt w' v r) (hb : Below w.heap.size w w') : RaPost w a b (.returned (.tuple #[v, .int .i64 0])) w' :=
  ⟨_, by rw [h]; rfl, by rw [h]; exact hv, hb⟩
theorem or128_i : ∀ y : Fin 24, bits BinOp.or IntKind.i64 (y.1 : Int) 128 = (y.1 : Int) + 128 := by decide +kernel
/-- What the program tries comes to the document's. -/
theorem own_fin (a : AskP) (b : List Int) (hl : 2 ≤ b.length) : readAnswerP a b = if answerP a (ownR (bits BinOp.or IntKind.i64 a.fn 128) (unpackV (b.drop 2) a.count) a b) = some b then some (ownR (bits BinOp.or IntKind.i64 a.fn 128) (unpackV (b.drop 2) a.count) a b) else none := by
  cases hm : mayP a with
  | false => rw [readAnswer_no a b hm, answer_no a _ hm]; rfl
  | true =>
    have f := (read_bytes a hm).2.2.2.2
    obtain ⟨_, hc⟩ := may_cases a hm
    have hcount : a.count ≤ 2000 := by rcases hc with ⟨_, h, _⟩ | ⟨_, h, _⟩ | ⟨_, h, _⟩ | ⟨_, h, _⟩ | ⟨_, h, _⟩ | ⟨_, h, _⟩ | ⟨_, h, _⟩ <;> omega
    have hq : bits BinOp.or IntKind.i64 a.fn 128 = a.fn + 128 := by
      obtain ⟨n, hn⟩ := Int.eq_ofNat_of_zero_le (show 0 ≤ a.fn by omega)
      rw [hn]
      exact or128_i ⟨n, by omega⟩
    rw [ownR_guess _ _ a b hq (by unfold unpackV; rw [if_neg (by omega)])]
    unfold readAnswerP
    rw [if_neg (show ¬ b.length < 2 by omega)]
end Go.Proofs.YtcipleanckeoaaaDoor
namespace Go.Proofs.YtcipleanckeoaaaDoor
open Go.RowKit
set_option linter.unusedVariables false

set_option maxRecDepth 100000 in
set_option maxHeartbeats 2000000 in
theorem ra_short (fn addr count to : Int) (bs : List Bool) (regs : List Int) (A : Option Addr) (nb cb : Nat) (R : Option Addr) (nr cr : Nat) (B : Option Addr) (n c : Nat) (b : List Int) (w : World) (hT : LimT w) (hA : SlB w w.heap.size A nb cb bs) (hR : SlI w w.heap.size .u16 R nr cr regs) (hy : Reg16 regs) (hB : SlI w w.heap.size .u8 B n c b) (hb8 : Byte8 b) (hn : n ≤ 1000) (hn2 : n < 2) : Calls Tryd.prog 30 #[.agg #[.int .i64 fn, .int .i64 addr, .int .i64 count, .int .i64 to, .slice A nb cb, .slice R nr cr], .slice B n c] w (RaPost w ⟨fn, addr, count, to, bs, regs⟩ b) := by
  obtain ⟨w1, hw1⟩ : ∃ w1, ((w.alloc (.cells #[.int .i64 fn, .int .i64 addr, .int .i64 count, .int .i64 to, .slice A nb cb, .slice R nr cr] 59)).alloc (.cells #[.int .i64 0, .int .i64 0, .slice none 0 0, .slice none 0 0] 68)).alloc (.cells #[.int .i64 fn, .int .i64 0, .slice none 0 0, .slice none 0 0] 68) = w1 := ⟨_, rfl⟩
  have hb1 : Below w.heap.size w w1 := by rw [← hw1]; exact (((Below.refl _ w).alloc (Nat.le_refl _) _).alloc (by simp) _).alloc (by simp; omega) _
  have hz1 : w1.heap.size = w.heap.size + 3 := by rw [← hw1]; simp
  have hP1 : Held w1 w.heap.size 59 #[.int .i64 fn, .int .i64 addr, .int .i64 count, .int .i64 to, .slice A nb cb, .slice R nr cr] := by rw [← hw1]; exact ((Held.new w _ _).alloc _).alloc _
  have hO1 : Held w1 (w.heap.size + 1) 68 #[.int .i64 0, .int .i64 0, .slice none 0 0, .slice none 0 0] := by rw [← hw1]; have := Held.new (w.alloc (.cells #[.int .i64 fn, .int .i64 addr, .int .i64 count, .int .i64 to, .slice A nb cb, .slice R nr cr] 59)) 68 #[.int .i64 0, .int .i64 0, .slice none 0 0, .slice none 0 0]; rw [World.size_alloc] at this; exact this.alloc _
  have hR1 : Held w1 (w.heap.size + 1 + 1) 68 #[.int .i64 fn, .int .i64 0, .slice none 0 0, .slice none 0 0] := by rw [← hw1]; have := Held.new ((w.alloc (.cells #[.int .i64 fn, .int .i64 addr, .int .i64 count, .int .i64 to, .slice A nb cb, .slice R nr cr] 59)).alloc (.cells #[.int .i64 0, .int .i64 0, .slice none 0 0, .slice none 0 0] 68)) 68 #[.int .i64 fn, .int .i64 0, .slice none 0 0, .slice none 0 0]; rw [World.size_alloc, World.size_alloc] at this; exact this
  have hu := Tryd.underlying59
  have hsz : (Tryd.prog.info? 59).map (·.size) = some 6 := by kernel_rfl
  have hu4 := Tryd.underlying68
  have hsz4 : (Tryd.prog.info? 68).map (·.size) = some 4 := by kernel_rfl
  have HT := Lib.hid (fun (X : World) (h : Below w.heap.size w X) => hT.up h)
  have HA := Lib.hid (fun (X : World) (h : Below w.heap.size w X) => hA.up h)
  have HR := Lib.hid (fun (X : World) (h : Below w.heap.size w X) => hR.up h)
  have HB := Lib.hid (fun (X : World) (h : Below w.heap.size w X) => hB.up h)
  have HW1 := Lib.hid hw1
  clear hw1
  have HL := Lib.hid hB.1
  have HCP := Lib.hid hB.2.1
  have hn2' : (n : Int) < 2 := by omega
  have HZ : Hid (readAnswerP ⟨fn, addr, count, to, bs, regs⟩ b = none) := Lib.hid (by unfold readAnswerP; rw [if_pos (by rw [HL.out]; omega)])
  have hb1w := hb1
  have hPw1 := hP1
  have hOw1 := hO1
  have hRw1 := hR1
  have hbw1w := hb1
  have pw10 : w1.cell? ⟨w.heap.size, 0, none⟩ = some (.int .i64 fn) := hPw1.cell 0
  have pw11 : w1.cell? ⟨w.heap.size, 1, none⟩ = some (.int .i64 addr) := hPw1.cell 1
  have pw12 : w1.cell? ⟨w.heap.size, 2, none⟩ = some (.int .i64 count) := hPw1.cell 2
  have pw13 : w1.cell? ⟨w.heap.size, 3, none⟩ = some (.int .i64 to) := hPw1.cell 3
  have pw14 : w1.cell? ⟨w.heap.size, 4, none⟩ = some (.slice A nb cb) := hPw1.cell 4
  have pw15 : w1.cell? ⟨w.heap.size, 5, none⟩ = some (.slice R nr cr) := hPw1.cell 5
  have ow10 : w1.cell? ⟨w.heap.size + 1, 0, none⟩ = some (.int .i64 0) := hOw1.cell 0
  have ow11 : w1.cell? ⟨w.heap.size + 1, 1, none⟩ = some (.int .i64 0) := hOw1.cell 1
  have ow12 : w1.cell? ⟨w.heap.size + 1, 2, none⟩ = some (.slice none 0 0) := hOw1.cell 2
  have ow13 : w1.cell? ⟨w.heap.size + 1, 3, none⟩ = some (.slice none 0 0) := hOw1.cell 3
  have rw10 : w1.cell? ⟨w.heap.size + 1 + 1, 0, none⟩ = some (.int .i64 fn) := hRw1.cell 0
  have rw11 : w1.cell? ⟨w.heap.size + 1 + 1, 1, none⟩ = some (.int .i64 0) := hRw1.cell 1
  have rw12 : w1.cell? ⟨w.heap.size + 1 + 1, 2, none⟩ = some (.slice none 0 0) := hRw1.cell 2
  have rw13 : w1.cell? ⟨w.heap.size + 1 + 1, 3, none⟩ = some (.slice none 0 0) := hRw1.cell 3
  have fow1 := hOw1.frozen
  have frw1 := hRw1.frozen
  have zPw1 := hPw1.lt
  have zOw1 := hOw1.lt
  have zRw1 := hRw1.lt
  clear hT hA hR hB
  go_in
  go_upto_region 2 with (fail)
  rw [HW1.out]
  go_wp2_with fail
  obtain ⟨wz, hwz⟩ : ∃ W, ((((w1.setCell ⟨w.heap.size + 1, 0, none⟩ (.int .i64 0)).setCell ⟨w.heap.size + 1, 1, none⟩ (.int .i64 0)).setCell ⟨w.heap.size + 1, 2, none⟩ (.slice none 0 0)).setCell ⟨w.heap.size + 1, 3, none⟩ (.slice none 0 0)) = W := ⟨_, rfl⟩
  have hZ : Held wz (w.heap.size + 1) 68 #[.int .i64 0, .int .i64 0, .slice none 0 0, .slice none 0 0] := by rw [← hwz]; exact (((hOw1.set 0 _).set 1 _).set 2 _).set 3 _
  have hbz : Below w.heap.size w wz := by rw [← hwz]; exact ((((hbw1w.setCell (p := ⟨w.heap.size + 1, 0, none⟩) (by simp) _).setCell (p := ⟨w.heap.size + 1, 1, none⟩) (by simp) _).setCell (p := ⟨w.heap.size + 1, 2, none⟩) (by simp) _).setCell (p := ⟨w.heap.size + 1, 3, none⟩) (by simp) _)
  have hoff : OffB w1 wz (w.heap.size + 1) := by rw [← hwz]; exact ((((OffB.refl _ _).set 0 _).set 1 _).set 2 _).set 3 _
  have z0 : wz.cell? ⟨w.heap.size + 1, 0, none⟩ = some (.int .i64 0) := hZ.cell 0
  have z1 : wz.cell? ⟨w.heap.size + 1, 1, none⟩ = some (.int .i64 0) := hZ.cell 1
  have z2 : wz.cell? ⟨w.heap.size + 1, 2, none⟩ = some (.slice none 0 0) := hZ.cell 2
  have z3 : wz.cell? ⟨w.heap.size + 1, 3, none⟩ = some (.slice none 0 0) := hZ.cell 3
  rw [hwz]
  exact bodyPost_ret (v := .tuple #[.agg #[.int .i64 0, .int .i64 0, .slice none 0 0, .slice none 0 0], .int .i64 190]) (by simp [results, Tryd.results30, go_sem, z0, z1, z2, z3]) rfl (ra_none (HZ.out) hbz)
set_option maxRecDepth 100000 in
set_option maxHeartbeats 2000000 in
theorem ra1 (fn addr count to : Int) (bs : List Bool) (regs : List Int) (A : Option Addr) (nb cb : Nat) (R : Option Addr) (nr cr : Nat) (g off n c : Nat) (b : List Int) (w : World) (h34 : Hid (fn = 3 ∨ fn = 4)) (hT : LimT w) (hA : SlB w w.heap.size A nb cb bs) (hR : SlI w w.heap.size .u16 R nr cr regs) (hy : Reg16 regs) (hB : SlI w w.heap.size .u8 (some ⟨g, off, none⟩) n c b) (hb8 : Byte8 b) (hn : n ≤ 1000) (hn2 : 2 ≤ n) (x0 : Int) (hx0 : b[0]? = some x0) (q : Int) (hq : bits BinOp.or IntKind.i64 fn 128 = q) (x1 : Int) (hx1 : b[1]? = some x1) (hfin : readAnswerP ⟨fn, addr, count, to, bs, regs⟩ b = if answerP ⟨fn, addr, count, to, bs, regs⟩ (⟨fn, x1, [], []⟩ : RepP) = some b then some (⟨fn, x1, [], []⟩ : RepP) else none) (ht : x0 = q) : Calls Tryd.prog 30 #[.agg #[.int .i64 fn, .int .i64 addr, .int .i64 count, .int .i64 to, .slice A nb cb, .slice R nr cr], .slice (some ⟨g, off, none⟩) n c] w (RaPost w ⟨fn, addr, count, to, bs, regs⟩ b) := by
  obtain ⟨w1, hw1⟩ : ∃ w1, ((w.alloc (.cells #[.int .i64 fn, .int .i64 addr, .int .i64 count, .int .i64 to, .slice A nb cb, .slice R nr cr] 59)).alloc (.cells #[.int .i64 0, .int .i64 0, .slice none 0 0, .slice none 0 0] 68)).alloc (.cells #[.int .i64 fn, .int .i64 0, .slice none 0 0, .slice none 0 0] 68) = w1 := ⟨_, rfl⟩
  have hb1 : Below w.heap.size w w1 := by rw [← hw1]; exact (((Below.refl _ w).alloc (Nat.le_refl _) _).alloc (by simp) _).alloc (by simp; omega) _
  have hz1 : w1.heap.size = w.heap.size + 3 := by rw [← hw1]; simp
  have hP1 : Held w1 w.heap.size 59 #[.int .i64 fn, .int .i64 addr, .int .i64 count, .int .i64 to, .slice A nb cb, .slice R nr cr] := by rw [← hw1]; exact ((Held.new w _ _).alloc _).alloc _
  have hO1 : Held w1 (w.heap.size + 1) 68 #[.int .i64 0, .int .i64 0, .slice none 0 0, .slice none 0 0] := by rw [← hw1]; have := Held.new (w.alloc (.cells #[.int .i64 fn, .int .i64 addr, .int .i64 count, .int .i64 to, .slice A nb cb, .slice R nr cr] 59)) 68 #[.int .i64 0, .int .i64 0, .slice none 0 0, .slice none 0 0]; rw [World.size_alloc] at this; exact this.alloc _
  have hR1 : Held w1 (w.heap.size + 1 + 1) 68 #[.int .i64 fn, .int .i64 0, .slice none 0 0, .slice none 0 0] := by rw [← hw1]; have := Held.new ((w.alloc (.cells #[.int .i64 fn, .int .i64 addr, .int .i64 count, .int .i64 to, .slice A nb cb, .slice R nr cr] 59)).alloc (.cells #[.int .i64 0, .int .i64 0, .slice none 0 0, .slice none 0 0] 68)) 68 #[.int .i64 fn, .int .i64 0, .slice none 0 0, .slice none 0 0]; rw [World.size_alloc, World.size_alloc] at this; exact this
  have hu := Tryd.underlying59
  have hsz : (Tryd.prog.info? 59).map (·.size) = some 6 := by kernel_rfl
  have hu4 := Tryd.underlying68
  have hsz4 : (Tryd.prog.info? 68).map (·.size) = some 4 := by kernel_rfl
  have HT := Lib.hid (fun (X : World) (h : Below w.heap.size w X) => hT.up h)
  have HA := Lib.hid (fun (X : World) (h : Below w.heap.size w X) => hA.up h)
  have HR := Lib.hid (fun (X : World) (h : Below w.heap.size w X) => hR.up h)
  have HB := Lib.hid (fun (X : World) (h : Below w.heap.size w X) => hB.up h)
  have HW1 := Lib.hid hw1
  clear hw1
  have HL := Lib.hid hB.1
  have HCP := Lib.hid hB.2.1
  have hn2' : ¬ (n : Int) < 2 := by omega
  have hn0 : 0 < n := by omega
  obtain ⟨x00, x01⟩ := hb8 x0 (List.mem_of_getElem? hx0)
  have wx0 : IntKind.i64.wrap x0 = x0 := IntWalk.i64_in _ (by omega)
  have HF : Hid (readAnswerP ⟨fn, addr, count, to, bs, regs⟩ b = if answerP ⟨fn, addr, count, to, bs, regs⟩ (⟨fn, x1, [], []⟩ : RepP) = some b then some (⟨fn, x1, [], []⟩ : RepP) else none) := Lib.hid hfin
  obtain ⟨x10, x11⟩ := hb8 x1 (List.mem_of_getElem? hx1)
  have HX1 := Lib.hid hx1
  have hn1 : 1 < n := by omega
  have ht2 : (x0 == q) = true := by simpa using ht
  clear ht hfin hx1
  clear hT hA hR hB
  go_in
  go_upto_region 2 with (fail)
  rw [HW1.out]
  obtain ⟨w2, hw2⟩ : ∃ w2 : World, w1.drew = w2 := ⟨_, rfl⟩
  have hb2w : Below w.heap.size w w2 := by rw [← hw2]; exact hb1.drew
  have hPw2 : Held w2 w.heap.size 59 #[.int .i64 fn, .int .i64 addr, .int .i64 count, .int .i64 to, .slice A nb cb, .slice R nr cr] := by rw [← hw2]; exact hP1
  have hOw2 : Held w2 (w.heap.size + 1) 68 #[.int .i64 0, .int .i64 0, .slice none 0 0, .slice none 0 0] := by rw [← hw2]; exact hO1
  have hRw2 : Held w2 (w.heap.size + 1 + 1) 68 #[.int .i64 fn, .int .i64 0, .slice none 0 0, .slice none 0 0] := by rw [← hw2]; exact hR1
  have HX0 : Hid (∀ W, Below w2.heap.size w2 W → W.cell? ⟨g, off, none⟩ = some (.int .u8 x0)) := Lib.hid (fun W h => by
    obtain ⟨g', o', e, hlt, hc⟩ := (HB.out W (hb2w.trans (h.mono hb2w.size))).2.2.2.2 (by rw [HL.out]; omega)
    injection e with e
    injection e with e1 e2
    subst e1 e2
    exact hc 0 x0 hx0)
  clear hP1 hO1 hR1
  go_wp2_with fail
  refine wp_region_held (S := Below w2.heap.size w2) (by kernel_rfl) ?_
  change wpAnyH _ _ _ _ _ _ _ _ w1.drew
  rw [hw2]
  have hS := Below.refl w2.heap.size w2
  refine wpAnyH_take (i := 0) (v := ?v0_1) rfl (by kernel_rfl) (by kernel_rfl) (by kernel_rfl) (fun _ _ _ h => h) (Or.inl ⟨by rfl, ?y0_1⟩) hS ?r0_1
  case y0_1 =>
    rintro W hH
    have hPW := hPw2.below hH hPw2.lt
    have q0 : W.cell? ⟨w.heap.size, 0, none⟩ = some (.int .i64 fn) := hPW.cell 0
    have q1 := HX0.out W hH
    clear hPW
    go_simp
    with_reducible rfl
  simp only [Act.put]
  try simp only [List.getElem_toArray, List.getElem_cons_zero]
  try simp only [List.setIfInBounds_toArray, List.set_cons_succ, List.set_cons_zero]
  refine wpAnyH_take (i := 1) (v := ?v1_2) rfl (by kernel_rfl) (by kernel_rfl) (by kernel_rfl) (fun _ _ _ h => h) (Or.inl ⟨by rfl, ?y1_2⟩) hS ?r1_2
  case y1_2 =>
    rintro W hH
    have hPW := hPw2.below hH hPw2.lt
    have q0 : W.cell? ⟨w.heap.size, 0, none⟩ = some (.int .i64 fn) := hPW.cell 0
    have q1 := HX0.out W hH
    clear hPW
    go_simp
    with_reducible rfl
  simp only [Act.put]
  try simp only [List.getElem_toArray, List.getElem_cons_succ, List.getElem_cons_zero]
  try simp only [List.setIfInBounds_toArray, List.set_cons_succ, List.set_cons_zero]
  refine wpAnyH_take (i := 2) (v := ?v2_3) rfl (by kernel_rfl) (by kernel_rfl) (by kernel_rfl) (fun _ _ _ h => h) (Or.inl ⟨by rfl, ?y2_3⟩) hS ?r2_3
  case y2_3 =>
    rintro W hH
    have hPW := hPw2.below hH hPw2.lt
    have q0 : W.cell? ⟨w.heap.size, 0, none⟩ = some (.int .i64 fn) := hPW.cell 0
    have q1 := HX0.out W hH
    clear hPW
    go_simp
    with_reducible rfl
  simp only [Act.put]
  try simp only [List.getElem_toArray, List.getElem_cons_succ, List.getElem_cons_zero]
  try simp only [List.setIfInBounds_toArray, List.set_cons_succ, List.set_cons_zero]
  refine wpAnyH_take (i := 3) (v := ?v3_4) rfl (by kernel_rfl) (by kernel_rfl) (by kernel_rfl) (fun _ _ _ h => h) (Or.inl ⟨by rfl, ?y3_4⟩) hS ?r3_4
  case y3_4 =>
    rintro W hH
    have hPW := hPw2.below hH hPw2.lt
    have q0 : W.cell? ⟨w.heap.size, 0, none⟩ = some (.int .i64 fn) := hPW.cell 0
    have q1 := HX0.out W hH
    clear hPW
    go_simp
    with_reducible rfl
  simp only [Act.put]
  try simp only [List.getElem_toArray, List.getElem_cons_succ, List.getElem_cons_zero]
  try simp only [List.setIfInBounds_toArray, List.set_cons_succ, List.set_cons_zero]
  refine wpAnyH_take (i := 4) (v := ?v4_5) rfl (by kernel_rfl) (by kernel_rfl) (by kernel_rfl) (fun _ _ _ h => h) (Or.inl ⟨by rfl, ?y4_5⟩) hS ?r4_5
  case y4_5 =>
    rintro W hH
    have hPW := hPw2.below hH hPw2.lt
    have q0 : W.cell? ⟨w.heap.size, 0, none⟩ = some (.int .i64 fn) := hPW.cell 0
    have q1 := HX0.out W hH
    clear hPW
    go_simp
    with_reducible rfl
  simp only [Act.put]
  try simp only [List.getElem_toArray, List.getElem_cons_succ, List.getElem_cons_zero]
  try simp only [List.setIfInBounds_toArray, List.set_cons_succ, List.set_cons_zero]
  refine wpAnyH_take (i := 5) (v := ?v5_6) rfl (by kernel_rfl) (by kernel_rfl) (by kernel_rfl) (fun _ _ _ h => h) (Or.inl ⟨by rfl, ?y5_6⟩) hS ?r5_6
  case y5_6 =>
    rintro W hH
    have hPW := hPw2.below hH hPw2.lt
    have q0 : W.cell? ⟨w.heap.size, 0, none⟩ = some (.int .i64 fn) := hPW.cell 0
    have q1 := HX0.out W hH
    clear hPW
    go_simp
    with_reducible rfl
  simp only [Act.put]
  try simp only [List.getElem_toArray, List.getElem_cons_succ, List.getElem_cons_zero]
  try simp only [List.setIfInBounds_toArray, List.set_cons_succ, List.set_cons_zero]
  refine wpAnyH_take (i := 6) (v := ?v6_7) rfl (by kernel_rfl) (by kernel_rfl) (by kernel_rfl) (fun _ _ _ h => h) (Or.inl ⟨by rfl, ?y6_7⟩) hS ?r6_7
  case y6_7 =>
    rintro W hH
    have hPW := hPw2.below hH hPw2.lt
    have q0 : W.cell? ⟨w.heap.size, 0, none⟩ = some (.int .i64 fn) := hPW.cell 0
    have q1 := HX0.out W hH
    clear hPW
    go_simp
    with_reducible rfl
  simp only [Act.put]
  try simp only [List.getElem_toArray, List.getElem_cons_succ, List.getElem_cons_zero]
  try simp only [List.setIfInBounds_toArray, List.set_cons_succ, List.set_cons_zero]
  refine wpAnyH_take (i := 7) (v := ?v7_8) rfl (by kernel_rfl) (by kernel_rfl) (by kernel_rfl) (fun _ _ _ h => h) (Or.inl ⟨by rfl, ?y7_8⟩) hS ?r7_8
  case y7_8 =>
    rintro W hH
    have hPW := hPw2.below hH hPw2.lt
    have q0 : W.cell? ⟨w.heap.size, 0, none⟩ = some (.int .i64 fn) := hPW.cell 0
    have q1 := HX0.out W hH
    clear hPW
    go_simp
    with_reducible rfl
  simp only [Act.put]
  try simp only [List.getElem_toArray, List.getElem_cons_succ, List.getElem_cons_zero]
  try simp only [List.setIfInBounds_toArray, List.set_cons_succ, List.set_cons_zero]
  refine wpAnyH_take (i := 8) (v := ?v8_9) rfl (by kernel_rfl) (by kernel_rfl) (by kernel_rfl) (fun _ _ _ h => h) (Or.inl ⟨by rfl, ?y8_9⟩) hS ?r8_9
  case y8_9 =>
    rintro W hH
    have hPW := hPw2.below hH hPw2.lt
    have q0 : W.cell? ⟨w.heap.size, 0, none⟩ = some (.int .i64 fn) := hPW.cell 0
    have q1 := HX0.out W hH
    clear hPW
    go_simp
    with_reducible rfl
  simp only [Act.put]
  try simp only [List.getElem_toArray, List.getElem_cons_succ, List.getElem_cons_zero]
  try simp only [List.setIfInBounds_toArray, List.set_cons_succ, List.set_cons_zero]
  refine wpAnyH_done (by kernel_rfl) ?_ _
  clear hS
  have pw20 : w2.cell? ⟨w.heap.size, 0, none⟩ = some (.int .i64 fn) := hPw2.cell 0
  have pw21 : w2.cell? ⟨w.heap.size, 1, none⟩ = some (.int .i64 addr) := hPw2.cell 1
  have pw22 : w2.cell? ⟨w.heap.size, 2, none⟩ = some (.int .i64 count) := hPw2.cell 2
  have pw23 : w2.cell? ⟨w.heap.size, 3, none⟩ = some (.int .i64 to) := hPw2.cell 3
  have pw24 : w2.cell? ⟨w.heap.size, 4, none⟩ = some (.slice A nb cb) := hPw2.cell 4
  have pw25 : w2.cell? ⟨w.heap.size, 5, none⟩ = some (.slice R nr cr) := hPw2.cell 5
  have ow20 : w2.cell? ⟨w.heap.size + 1, 0, none⟩ = some (.int .i64 0) := hOw2.cell 0
  have ow21 : w2.cell? ⟨w.heap.size + 1, 1, none⟩ = some (.int .i64 0) := hOw2.cell 1
  have ow22 : w2.cell? ⟨w.heap.size + 1, 2, none⟩ = some (.slice none 0 0) := hOw2.cell 2
  have ow23 : w2.cell? ⟨w.heap.size + 1, 3, none⟩ = some (.slice none 0 0) := hOw2.cell 3
  have rw20 : w2.cell? ⟨w.heap.size + 1 + 1, 0, none⟩ = some (.int .i64 fn) := hRw2.cell 0
  have rw21 : w2.cell? ⟨w.heap.size + 1 + 1, 1, none⟩ = some (.int .i64 0) := hRw2.cell 1
  have rw22 : w2.cell? ⟨w.heap.size + 1 + 1, 2, none⟩ = some (.slice none 0 0) := hRw2.cell 2
  have rw23 : w2.cell? ⟨w.heap.size + 1 + 1, 3, none⟩ = some (.slice none 0 0) := hRw2.cell 3
  have fow2 := hOw2.frozen
  have frw2 := hRw2.frozen
  have zPw2 := hPw2.lt
  have zOw2 := hOw2.lt
  have zRw2 := hRw2.lt
  have hbw2w := hb2w
  have hc1 : w2.cell? ⟨g, off + 1, none⟩ = some (.int .u8 x1) := by
    obtain ⟨g', o', e, hlt, hc⟩ := (HB.out w2 hb2w).2.2.2.2 (by rw [HL.out]; omega)
    injection e with e
    injection e with e1 e2
    subst e1 e2
    exact hc 1 x1 HX1.out
  obtain ⟨w3, hw3⟩ : ∃ W, w2.setCell ⟨w.heap.size + 1 + 1, 1, none⟩ (.int .i64 x1) = W := ⟨_, rfl⟩
  have hbw3w : Below w.heap.size w w3 := by rw [← hw3]; exact hbw2w.setCell (p := ⟨w.heap.size + 1 + 1, 1, none⟩) (by show w.heap.size ≤ w.heap.size + 1 + 1; omega) _
  have hPw3 : Held w3 w.heap.size 59 #[.int .i64 fn, .int .i64 addr, .int .i64 count, .int .i64 to, .slice A nb cb, .slice R nr cr] := by rw [← hw3]; exact hPw2.far (p := ⟨w.heap.size + 1 + 1, 1, none⟩) (by show w.heap.size ≠ w.heap.size + 1 + 1; omega) _
  have hOw3 : Held w3 (w.heap.size + 1) 68 #[.int .i64 0, .int .i64 0, .slice none 0 0, .slice none 0 0] := by rw [← hw3]; exact hOw2.far (p := ⟨w.heap.size + 1 + 1, 1, none⟩) (by show w.heap.size + 1 ≠ w.heap.size + 1 + 1; omega) _
  have hRw3 : Held w3 (w.heap.size + 1 + 1) 68 #[.int .i64 fn, .int .i64 x1, .slice none 0 0, .slice none 0 0] := by rw [← hw3]; exact hRw2.set 1 _
  have pw30 : w3.cell? ⟨w.heap.size, 0, none⟩ = some (.int .i64 fn) := hPw3.cell 0
  have pw31 : w3.cell? ⟨w.heap.size, 1, none⟩ = some (.int .i64 addr) := hPw3.cell 1
  have pw32 : w3.cell? ⟨w.heap.size, 2, none⟩ = some (.int .i64 count) := hPw3.cell 2
  have pw33 : w3.cell? ⟨w.heap.size, 3, none⟩ = some (.int .i64 to) := hPw3.cell 3
  have pw34 : w3.cell? ⟨w.heap.size, 4, none⟩ = some (.slice A nb cb) := hPw3.cell 4
  have pw35 : w3.cell? ⟨w.heap.size, 5, none⟩ = some (.slice R nr cr) := hPw3.cell 5
  have ow30 : w3.cell? ⟨w.heap.size + 1, 0, none⟩ = some (.int .i64 0) := hOw3.cell 0
  have ow31 : w3.cell? ⟨w.heap.size + 1, 1, none⟩ = some (.int .i64 0) := hOw3.cell 1
  have ow32 : w3.cell? ⟨w.heap.size + 1, 2, none⟩ = some (.slice none 0 0) := hOw3.cell 2
  have ow33 : w3.cell? ⟨w.heap.size + 1, 3, none⟩ = some (.slice none 0 0) := hOw3.cell 3
  have rw30 : w3.cell? ⟨w.heap.size + 1 + 1, 0, none⟩ = some (.int .i64 fn) := hRw3.cell 0
  have rw31 : w3.cell? ⟨w.heap.size + 1 + 1, 1, none⟩ = some (.int .i64 x1) := hRw3.cell 1
  have rw32 : w3.cell? ⟨w.heap.size + 1 + 1, 2, none⟩ = some (.slice none 0 0) := hRw3.cell 2
  have rw33 : w3.cell? ⟨w.heap.size + 1 + 1, 3, none⟩ = some (.slice none 0 0) := hRw3.cell 3
  have fow3 := hOw3.frozen
  have frw3 := hRw3.frozen
  have zPw3 := hPw3.lt
  have zOw3 := hOw3.lt
  have zRw3 := hRw3.lt
  have HAN := Lib.hid (answer_own (.agg #[.int .i64 fn, .int .i64 addr, .int .i64 count, .int .i64 to, .slice A nb cb, .slice R nr cr]) (.agg #[.int .i64 fn, .int .i64 x1, .slice none 0 0, .slice none 0 0]) ⟨fn, addr, count, to, bs, regs⟩ (⟨fn, x1, [], []⟩ : RepP) w3 (HT.out w3 hbw3w) ⟨A, nb, cb, R, nr, cr, rfl, HA.out w3 hbw3w, HR.out w3 hbw3w⟩ ⟨none, 0, 0, none, 0, 0, rfl, SlB.nil _ _, SlI.nil _ _ _⟩ hy reg_nil (by simp) (by simp) h34.out)
  go_wp2_with (first | ((with_reducible refine at_loadT 59 2 ?_); refine wpList_load_rowG rfl 59 (.tmp 2) rfl w.heap.size rfl 59 _ _ hPw3 hu rfl hsz ?_) | ((with_reducible refine at_loadT 68 6 ?_); refine wpList_load_rowG rfl 68 (.tmp 6) rfl (w.heap.size + 1 + 1) rfl 68 _ _ hRw3 hu4 rfl hsz4 ?_))
  refine HAN.out.mono ?_
  rintro e wq ⟨Aq, nq, cq, rfl, sq, hbq⟩
  have hbqw := hbw3w.trans (hbq.mono hbw3w.size)
  have hPwq := hPw3.below hbq hPw3.lt
  have hOwq := hOw3.below hbq hOw3.lt
  have hRwq := hRw3.below hbq hRw3.lt
  have pwq0 : wq.cell? ⟨w.heap.size, 0, none⟩ = some (.int .i64 fn) := hPwq.cell 0
  have pwq1 : wq.cell? ⟨w.heap.size, 1, none⟩ = some (.int .i64 addr) := hPwq.cell 1
  have pwq2 : wq.cell? ⟨w.heap.size, 2, none⟩ = some (.int .i64 count) := hPwq.cell 2
  have pwq3 : wq.cell? ⟨w.heap.size, 3, none⟩ = some (.int .i64 to) := hPwq.cell 3
  have pwq4 : wq.cell? ⟨w.heap.size, 4, none⟩ = some (.slice A nb cb) := hPwq.cell 4
  have pwq5 : wq.cell? ⟨w.heap.size, 5, none⟩ = some (.slice R nr cr) := hPwq.cell 5
  have owq0 : wq.cell? ⟨w.heap.size + 1, 0, none⟩ = some (.int .i64 0) := hOwq.cell 0
  have owq1 : wq.cell? ⟨w.heap.size + 1, 1, none⟩ = some (.int .i64 0) := hOwq.cell 1
  have owq2 : wq.cell? ⟨w.heap.size + 1, 2, none⟩ = some (.slice none 0 0) := hOwq.cell 2
  have owq3 : wq.cell? ⟨w.heap.size + 1, 3, none⟩ = some (.slice none 0 0) := hOwq.cell 3
  have rwq0 : wq.cell? ⟨w.heap.size + 1 + 1, 0, none⟩ = some (.int .i64 fn) := hRwq.cell 0
  have rwq1 : wq.cell? ⟨w.heap.size + 1 + 1, 1, none⟩ = some (.int .i64 x1) := hRwq.cell 1
  have rwq2 : wq.cell? ⟨w.heap.size + 1 + 1, 2, none⟩ = some (.slice none 0 0) := hRwq.cell 2
  have rwq3 : wq.cell? ⟨w.heap.size + 1 + 1, 3, none⟩ = some (.slice none 0 0) := hRwq.cell 3
  have fowq := hOwq.frozen
  have frwq := hRwq.frozen
  have zPwq := hPwq.lt
  have zOwq := hOwq.lt
  have zRwq := hRwq.lt
  have hbwqw := hbqw
  cases han : answerP ⟨fn, addr, count, to, bs, regs⟩ (⟨fn, x1, [], []⟩ : RepP) with
  | none =>
    have hfz : readAnswerP ⟨fn, addr, count, to, bs, regs⟩ b = none := by rw [HF.out, han]; rfl
    have HZ := Lib.hid hfz
    have he : errV (none : Option (List Int)).isSome = 190 := rfl
    rw [he]
    clear han hfz he
    go_wp2_with fail
    obtain ⟨wz, hwz⟩ : ∃ W, ((((wq.setCell ⟨w.heap.size + 1, 0, none⟩ (.int .i64 0)).setCell ⟨w.heap.size + 1, 1, none⟩ (.int .i64 0)).setCell ⟨w.heap.size + 1, 2, none⟩ (.slice none 0 0)).setCell ⟨w.heap.size + 1, 3, none⟩ (.slice none 0 0)) = W := ⟨_, rfl⟩
    have hZ : Held wz (w.heap.size + 1) 68 #[.int .i64 0, .int .i64 0, .slice none 0 0, .slice none 0 0] := by rw [← hwz]; exact (((hOwq.set 0 _).set 1 _).set 2 _).set 3 _
    have hbz : Below w.heap.size w wz := by rw [← hwz]; exact ((((hbwqw.setCell (p := ⟨w.heap.size + 1, 0, none⟩) (by simp) _).setCell (p := ⟨w.heap.size + 1, 1, none⟩) (by simp) _).setCell (p := ⟨w.heap.size + 1, 2, none⟩) (by simp) _).setCell (p := ⟨w.heap.size + 1, 3, none⟩) (by simp) _)
    have hoff : OffB wq wz (w.heap.size + 1) := by rw [← hwz]; exact ((((OffB.refl _ _).set 0 _).set 1 _).set 2 _).set 3 _
    have z0 : wz.cell? ⟨w.heap.size + 1, 0, none⟩ = some (.int .i64 0) := hZ.cell 0
    have z1 : wz.cell? ⟨w.heap.size + 1, 1, none⟩ = some (.int .i64 0) := hZ.cell 1
    have z2 : wz.cell? ⟨w.heap.size + 1, 2, none⟩ = some (.slice none 0 0) := hZ.cell 2
    have z3 : wz.cell? ⟨w.heap.size + 1, 3, none⟩ = some (.slice none 0 0) := hZ.cell 3
    rw [hwz]
    exact bodyPost_ret (v := .tuple #[.agg #[.int .i64 0, .int .i64 0, .slice none 0 0, .slice none 0 0], .int .i64 190]) (by simp [results, Tryd.results30, go_sem, z0, z1, z2, z3]) rfl (ra_none (HZ.out) hbz)
  | some x =>
    have he : errV (some x : Option (List Int)).isSome = 0 := rfl
    rw [he]
    rw [han] at sq
    have hx8 : Byte8 x := (reply_read _ _ x reg_nil hy han).2.2.2.1
    have HEQ := Lib.hid (equal_bytes Aq (some ⟨g, off, none⟩) nq cq n c x b wq sq (HB.out wq hbqw) hx8 hb8)
    by_cases hxb : x = b
    · have hfz : readAnswerP ⟨fn, addr, count, to, bs, regs⟩ b = some (⟨fn, x1, [], []⟩ : RepP) := by rw [HF.out, han, if_pos (by rw [hxb])]
      have HZ := Lib.hid hfz
      rw [decide_eq_true hxb] at HEQ
      clear han hfz he hxb sq hx8
      go_wp2_with (go_at_call 71; (with_reducible refine HEQ.out.mono ?_); rintro e w' ⟨rfl, rfl⟩)
      obtain ⟨wz, hwz⟩ : ∃ W, ((((wq.setCell ⟨w.heap.size + 1, 0, none⟩ (.int .i64 fn)).setCell ⟨w.heap.size + 1, 1, none⟩ (.int .i64 x1)).setCell ⟨w.heap.size + 1, 2, none⟩ (.slice none 0 0)).setCell ⟨w.heap.size + 1, 3, none⟩ (.slice none 0 0)) = W := ⟨_, rfl⟩
      have hZ : Held wz (w.heap.size + 1) 68 #[.int .i64 fn, .int .i64 x1, .slice none 0 0, .slice none 0 0] := by rw [← hwz]; exact (((hOwq.set 0 _).set 1 _).set 2 _).set 3 _
      have hbz : Below w.heap.size w wz := by rw [← hwz]; exact ((((hbwqw.setCell (p := ⟨w.heap.size + 1, 0, none⟩) (by simp) _).setCell (p := ⟨w.heap.size + 1, 1, none⟩) (by simp) _).setCell (p := ⟨w.heap.size + 1, 2, none⟩) (by simp) _).setCell (p := ⟨w.heap.size + 1, 3, none⟩) (by simp) _)
      have hoff : OffB wq wz (w.heap.size + 1) := by rw [← hwz]; exact ((((OffB.refl _ _).set 0 _).set 1 _).set 2 _).set 3 _
      have z0 : wz.cell? ⟨w.heap.size + 1, 0, none⟩ = some (.int .i64 fn) := hZ.cell 0
      have z1 : wz.cell? ⟨w.heap.size + 1, 1, none⟩ = some (.int .i64 x1) := hZ.cell 1
      have z2 : wz.cell? ⟨w.heap.size + 1, 2, none⟩ = some (.slice none 0 0) := hZ.cell 2
      have z3 : wz.cell? ⟨w.heap.size + 1, 3, none⟩ = some (.slice none 0 0) := hZ.cell 3
      rw [hwz]
      exact bodyPost_ret (v := .tuple #[.agg #[.int .i64 fn, .int .i64 x1, .slice none 0 0, .slice none 0 0], .int .i64 0]) (by simp [results, Tryd.results30, go_sem, z0, z1, z2, z3]) rfl (ra_some HZ.out ⟨none, 0, 0, none, 0, 0, rfl, SlB.nil _ _, SlI.nil _ _ _⟩ hbz)
    · have hfz : readAnswerP ⟨fn, addr, count, to, bs, regs⟩ b = none := by rw [HF.out, han, if_neg (by simpa using hxb)]
      have HZ := Lib.hid hfz
      rw [decide_eq_false hxb] at HEQ
      clear han hfz he hxb sq hx8
      go_wp2_with (go_at_call 71; (with_reducible refine HEQ.out.mono ?_); rintro e w' ⟨rfl, rfl⟩)
      obtain ⟨wz, hwz⟩ : ∃ W, ((((wq.setCell ⟨w.heap.size + 1, 0, none⟩ (.int .i64 0)).setCell ⟨w.heap.size + 1, 1, none⟩ (.int .i64 0)).setCell ⟨w.heap.size + 1, 2, none⟩ (.slice none 0 0)).setCell ⟨w.heap.size + 1, 3, none⟩ (.slice none 0 0)) = W := ⟨_, rfl⟩
      have hZ : Held wz (w.heap.size + 1) 68 #[.int .i64 0, .int .i64 0, .slice none 0 0, .slice none 0 0] := by rw [← hwz]; exact (((hOwq.set 0 _).set 1 _).set 2 _).set 3 _
      have hbz : Below w.heap.size w wz := by rw [← hwz]; exact ((((hbwqw.setCell (p := ⟨w.heap.size + 1, 0, none⟩) (by simp) _).setCell (p := ⟨w.heap.size + 1, 1, none⟩) (by simp) _).setCell (p := ⟨w.heap.size + 1, 2, none⟩) (by simp) _).setCell (p := ⟨w.heap.size + 1, 3, none⟩) (by simp) _)
      have hoff : OffB wq wz (w.heap.size + 1) := by rw [← hwz]; exact ((((OffB.refl _ _).set 0 _).set 1 _).set 2 _).set 3 _
      have z0 : wz.cell? ⟨w.heap.size + 1, 0, none⟩ = some (.int .i64 0) := hZ.cell 0
      have z1 : wz.cell? ⟨w.heap.size + 1, 1, none⟩ = some (.int .i64 0) := hZ.cell 1
      have z2 : wz.cell? ⟨w.heap.size + 1, 2, none⟩ = some (.slice none 0 0) := hZ.cell 2
      have z3 : wz.cell? ⟨w.heap.size + 1, 3, none⟩ = some (.slice none 0 0) := hZ.cell 3
      rw [hwz]
      exact bodyPost_ret (v := .tuple #[.agg #[.int .i64 0, .int .i64 0, .slice none 0 0, .slice none 0 0], .int .i64 190]) (by simp [results, Tryd.results30, go_sem, z0, z1, z2, z3]) rfl (ra_none (HZ.out) hbz)
end Go.Proofs.YtcipleanckeoaaaDoor
namespace Go.Proofs.YtcipleanckeoaaaDoor
open Go.RowKit
set_option linter.unusedVariables false

end Go.Proofs.YtcipleanckeoaaaDoor
namespace Go.Proofs.YtcipleanckeoaaaDoor
open Go.RowKit
set_option linter.unusedVariables false

set_option maxRecDepth 100000 in
set_option maxHeartbeats 2000000 in
theorem ra3z (fn addr count to : Int) (bs : List Bool) (regs : List Int) (A : Option Addr) (nb cb : Nat) (R : Option Addr) (nr cr : Nat) (g off n c : Nat) (b : List Int) (w : World) (h34 : Hid (fn = 3 ∨ fn = 4)) (hT : LimT w) (hA : SlB w w.heap.size A nb cb bs) (hR : SlI w w.heap.size .u16 R nr cr regs) (hy : Reg16 regs) (hB : SlI w w.heap.size .u8 (some ⟨g, off, none⟩) n c b) (hb8 : Byte8 b) (hn : n ≤ 1000) (hn2 : 2 ≤ n) (x0 : Int) (hx0 : b[0]? = some x0) (q : Int) (hq : bits BinOp.or IntKind.i64 fn 128 = q) (hfin : readAnswerP ⟨fn, addr, count, to, bs, regs⟩ b = if answerP ⟨fn, addr, count, to, bs, regs⟩ (⟨fn, 0, [], fromP (b.drop 2)⟩ : RepP) = some b then some (⟨fn, 0, [], fromP (b.drop 2)⟩ : RepP) else none) (ht : x0 ≠ q) (h2 : 2 < fn) (h4 : fn ≤ 4) (hcc : c = 2) : Calls Tryd.prog 30 #[.agg #[.int .i64 fn, .int .i64 addr, .int .i64 count, .int .i64 to, .slice A nb cb, .slice R nr cr], .slice (some ⟨g, off, none⟩) n c] w (RaPost w ⟨fn, addr, count, to, bs, regs⟩ b) := by
  obtain rfl : c = 2 := hcc
  obtain rfl : n = 2 := by have := hB.2.1; omega
  obtain ⟨w1, hw1⟩ : ∃ w1, ((w.alloc (.cells #[.int .i64 fn, .int .i64 addr, .int .i64 count, .int .i64 to, .slice A nb cb, .slice R nr cr] 59)).alloc (.cells #[.int .i64 0, .int .i64 0, .slice none 0 0, .slice none 0 0] 68)).alloc (.cells #[.int .i64 fn, .int .i64 0, .slice none 0 0, .slice none 0 0] 68) = w1 := ⟨_, rfl⟩
  have hb1 : Below w.heap.size w w1 := by rw [← hw1]; exact (((Below.refl _ w).alloc (Nat.le_refl _) _).alloc (by simp) _).alloc (by simp; omega) _
  have hz1 : w1.heap.size = w.heap.size + 3 := by rw [← hw1]; simp
  have hP1 : Held w1 w.heap.size 59 #[.int .i64 fn, .int .i64 addr, .int .i64 count, .int .i64 to, .slice A nb cb, .slice R nr cr] := by rw [← hw1]; exact ((Held.new w _ _).alloc _).alloc _
  have hO1 : Held w1 (w.heap.size + 1) 68 #[.int .i64 0, .int .i64 0, .slice none 0 0, .slice none 0 0] := by rw [← hw1]; have := Held.new (w.alloc (.cells #[.int .i64 fn, .int .i64 addr, .int .i64 count, .int .i64 to, .slice A nb cb, .slice R nr cr] 59)) 68 #[.int .i64 0, .int .i64 0, .slice none 0 0, .slice none 0 0]; rw [World.size_alloc] at this; exact this.alloc _
  have hR1 : Held w1 (w.heap.size + 1 + 1) 68 #[.int .i64 fn, .int .i64 0, .slice none 0 0, .slice none 0 0] := by rw [← hw1]; have := Held.new ((w.alloc (.cells #[.int .i64 fn, .int .i64 addr, .int .i64 count, .int .i64 to, .slice A nb cb, .slice R nr cr] 59)).alloc (.cells #[.int .i64 0, .int .i64 0, .slice none 0 0, .slice none 0 0] 68)) 68 #[.int .i64 fn, .int .i64 0, .slice none 0 0, .slice none 0 0]; rw [World.size_alloc, World.size_alloc] at this; exact this
  have hu := Tryd.underlying59
  have hsz : (Tryd.prog.info? 59).map (·.size) = some 6 := by kernel_rfl
  have hu4 := Tryd.underlying68
  have hsz4 : (Tryd.prog.info? 68).map (·.size) = some 4 := by kernel_rfl
  have HT := Lib.hid (fun (X : World) (h : Below w.heap.size w X) => hT.up h)
  have HA := Lib.hid (fun (X : World) (h : Below w.heap.size w X) => hA.up h)
  have HR := Lib.hid (fun (X : World) (h : Below w.heap.size w X) => hR.up h)
  have HB := Lib.hid (fun (X : World) (h : Below w.heap.size w X) => hB.up h)
  have HW1 := Lib.hid hw1
  clear hw1
  have HL := Lib.hid hB.1
  have HCP := Lib.hid hB.2.1
  have hn2' : True := trivial
  have hn0 : 0 < 2 := by omega
  obtain ⟨x00, x01⟩ := hb8 x0 (List.mem_of_getElem? hx0)
  have wx0 : IntKind.i64.wrap x0 = x0 := IntWalk.i64_in _ (by omega)
  have HF : Hid (readAnswerP ⟨fn, addr, count, to, bs, regs⟩ b = if answerP ⟨fn, addr, count, to, bs, regs⟩ (⟨fn, 0, [], fromP (b.drop 2)⟩ : RepP) = some b then some (⟨fn, 0, [], fromP (b.drop 2)⟩ : RepP) else none) := Lib.hid hfin
  have ht2 : (x0 == q) = false := by simpa using ht
  clear ht hfin
  have h2' : ¬ fn ≤ 2 := by omega
  clear hT hA hR hB
  go_in
  go_upto_region 2 with (fail)
  rw [HW1.out]
  obtain ⟨w2, hw2⟩ : ∃ w2 : World, w1.drew = w2 := ⟨_, rfl⟩
  have hb2w : Below w.heap.size w w2 := by rw [← hw2]; exact hb1.drew
  have hPw2 : Held w2 w.heap.size 59 #[.int .i64 fn, .int .i64 addr, .int .i64 count, .int .i64 to, .slice A nb cb, .slice R nr cr] := by rw [← hw2]; exact hP1
  have hOw2 : Held w2 (w.heap.size + 1) 68 #[.int .i64 0, .int .i64 0, .slice none 0 0, .slice none 0 0] := by rw [← hw2]; exact hO1
  have hRw2 : Held w2 (w.heap.size + 1 + 1) 68 #[.int .i64 fn, .int .i64 0, .slice none 0 0, .slice none 0 0] := by rw [← hw2]; exact hR1
  have HX0 : Hid (∀ W, Below w2.heap.size w2 W → W.cell? ⟨g, off, none⟩ = some (.int .u8 x0)) := Lib.hid (fun W h => by
    obtain ⟨g', o', e, hlt, hc⟩ := (HB.out W (hb2w.trans (h.mono hb2w.size))).2.2.2.2 (by rw [HL.out]; omega)
    injection e with e
    injection e with e1 e2
    subst e1 e2
    exact hc 0 x0 hx0)
  clear hP1 hO1 hR1
  go_wp2_with fail
  refine wp_region_held (S := Below w2.heap.size w2) (by kernel_rfl) ?_
  change wpAnyH _ _ _ _ _ _ _ _ w1.drew
  rw [hw2]
  have hS := Below.refl w2.heap.size w2
  refine wpAnyH_take (i := 0) (v := ?v0_1) rfl (by kernel_rfl) (by kernel_rfl) (by kernel_rfl) (fun _ _ _ h => h) (Or.inl ⟨by rfl, ?y0_1⟩) hS ?r0_1
  case y0_1 =>
    rintro W hH
    have hPW := hPw2.below hH hPw2.lt
    have q0 : W.cell? ⟨w.heap.size, 0, none⟩ = some (.int .i64 fn) := hPW.cell 0
    have q1 := HX0.out W hH
    clear hPW
    go_simp
    with_reducible rfl
  simp only [Act.put]
  try simp only [List.getElem_toArray, List.getElem_cons_zero]
  try simp only [List.setIfInBounds_toArray, List.set_cons_succ, List.set_cons_zero]
  refine wpAnyH_take (i := 1) (v := ?v1_2) rfl (by kernel_rfl) (by kernel_rfl) (by kernel_rfl) (fun _ _ _ h => h) (Or.inl ⟨by rfl, ?y1_2⟩) hS ?r1_2
  case y1_2 =>
    rintro W hH
    have hPW := hPw2.below hH hPw2.lt
    have q0 : W.cell? ⟨w.heap.size, 0, none⟩ = some (.int .i64 fn) := hPW.cell 0
    have q1 := HX0.out W hH
    clear hPW
    go_simp
    with_reducible rfl
  simp only [Act.put]
  try simp only [List.getElem_toArray, List.getElem_cons_succ, List.getElem_cons_zero]
  try simp only [List.setIfInBounds_toArray, List.set_cons_succ, List.set_cons_zero]
  refine wpAnyH_take (i := 2) (v := ?v2_3) rfl (by kernel_rfl) (by kernel_rfl) (by kernel_rfl) (fun _ _ _ h => h) (Or.inl ⟨by rfl, ?y2_3⟩) hS ?r2_3
  case y2_3 =>
    rintro W hH
    have hPW := hPw2.below hH hPw2.lt
    have q0 : W.cell? ⟨w.heap.size, 0, none⟩ = some (.int .i64 fn) := hPW.cell 0
    have q1 := HX0.out W hH
    clear hPW
    go_simp
    with_reducible rfl
  simp only [Act.put]
  try simp only [List.getElem_toArray, List.getElem_cons_succ, List.getElem_cons_zero]
  try simp only [List.setIfInBounds_toArray, List.set_cons_succ, List.set_cons_zero]
  refine wpAnyH_take (i := 3) (v := ?v3_4) rfl (by kernel_rfl) (by kernel_rfl) (by kernel_rfl) (fun _ _ _ h => h) (Or.inl ⟨by rfl, ?y3_4⟩) hS ?r3_4
  case y3_4 =>
    rintro W hH
    have hPW := hPw2.below hH hPw2.lt
    have q0 : W.cell? ⟨w.heap.size, 0, none⟩ = some (.int .i64 fn) := hPW.cell 0
    have q1 := HX0.out W hH
    clear hPW
    go_simp
    with_reducible rfl
  simp only [Act.put]
  try simp only [List.getElem_toArray, List.getElem_cons_succ, List.getElem_cons_zero]
  try simp only [List.setIfInBounds_toArray, List.set_cons_succ, List.set_cons_zero]
  refine wpAnyH_take (i := 4) (v := ?v4_5) rfl (by kernel_rfl) (by kernel_rfl) (by kernel_rfl) (fun _ _ _ h => h) (Or.inl ⟨by rfl, ?y4_5⟩) hS ?r4_5
  case y4_5 =>
    rintro W hH
    have hPW := hPw2.below hH hPw2.lt
    have q0 : W.cell? ⟨w.heap.size, 0, none⟩ = some (.int .i64 fn) := hPW.cell 0
    have q1 := HX0.out W hH
    clear hPW
    go_simp
    with_reducible rfl
  simp only [Act.put]
  try simp only [List.getElem_toArray, List.getElem_cons_succ, List.getElem_cons_zero]
  try simp only [List.setIfInBounds_toArray, List.set_cons_succ, List.set_cons_zero]
  refine wpAnyH_take (i := 5) (v := ?v5_6) rfl (by kernel_rfl) (by kernel_rfl) (by kernel_rfl) (fun _ _ _ h => h) (Or.inl ⟨by rfl, ?y5_6⟩) hS ?r5_6
  case y5_6 =>
    rintro W hH
    have hPW := hPw2.below hH hPw2.lt
    have q0 : W.cell? ⟨w.heap.size, 0, none⟩ = some (.int .i64 fn) := hPW.cell 0
    have q1 := HX0.out W hH
    clear hPW
    go_simp
    with_reducible rfl
  simp only [Act.put]
  try simp only [List.getElem_toArray, List.getElem_cons_succ, List.getElem_cons_zero]
  try simp only [List.setIfInBounds_toArray, List.set_cons_succ, List.set_cons_zero]
  refine wpAnyH_take (i := 6) (v := ?v6_7) rfl (by kernel_rfl) (by kernel_rfl) (by kernel_rfl) (fun _ _ _ h => h) (Or.inl ⟨by rfl, ?y6_7⟩) hS ?r6_7
  case y6_7 =>
    rintro W hH
    have hPW := hPw2.below hH hPw2.lt
    have q0 : W.cell? ⟨w.heap.size, 0, none⟩ = some (.int .i64 fn) := hPW.cell 0
    have q1 := HX0.out W hH
    clear hPW
    go_simp
    with_reducible rfl
  simp only [Act.put]
  try simp only [List.getElem_toArray, List.getElem_cons_succ, List.getElem_cons_zero]
  try simp only [List.setIfInBounds_toArray, List.set_cons_succ, List.set_cons_zero]
  refine wpAnyH_take (i := 7) (v := ?v7_8) rfl (by kernel_rfl) (by kernel_rfl) (by kernel_rfl) (fun _ _ _ h => h) (Or.inl ⟨by rfl, ?y7_8⟩) hS ?r7_8
  case y7_8 =>
    rintro W hH
    have hPW := hPw2.below hH hPw2.lt
    have q0 : W.cell? ⟨w.heap.size, 0, none⟩ = some (.int .i64 fn) := hPW.cell 0
    have q1 := HX0.out W hH
    clear hPW
    go_simp
    with_reducible rfl
  simp only [Act.put]
  try simp only [List.getElem_toArray, List.getElem_cons_succ, List.getElem_cons_zero]
  try simp only [List.setIfInBounds_toArray, List.set_cons_succ, List.set_cons_zero]
  refine wpAnyH_take (i := 8) (v := ?v8_9) rfl (by kernel_rfl) (by kernel_rfl) (by kernel_rfl) (fun _ _ _ h => h) (Or.inl ⟨by rfl, ?y8_9⟩) hS ?r8_9
  case y8_9 =>
    rintro W hH
    have hPW := hPw2.below hH hPw2.lt
    have q0 : W.cell? ⟨w.heap.size, 0, none⟩ = some (.int .i64 fn) := hPW.cell 0
    have q1 := HX0.out W hH
    clear hPW
    go_simp
    with_reducible rfl
  simp only [Act.put]
  try simp only [List.getElem_toArray, List.getElem_cons_succ, List.getElem_cons_zero]
  try simp only [List.setIfInBounds_toArray, List.set_cons_succ, List.set_cons_zero]
  refine wpAnyH_done (by kernel_rfl) ?_ _
  clear hS
  have pw20 : w2.cell? ⟨w.heap.size, 0, none⟩ = some (.int .i64 fn) := hPw2.cell 0
  have pw21 : w2.cell? ⟨w.heap.size, 1, none⟩ = some (.int .i64 addr) := hPw2.cell 1
  have pw22 : w2.cell? ⟨w.heap.size, 2, none⟩ = some (.int .i64 count) := hPw2.cell 2
  have pw23 : w2.cell? ⟨w.heap.size, 3, none⟩ = some (.int .i64 to) := hPw2.cell 3
  have pw24 : w2.cell? ⟨w.heap.size, 4, none⟩ = some (.slice A nb cb) := hPw2.cell 4
  have pw25 : w2.cell? ⟨w.heap.size, 5, none⟩ = some (.slice R nr cr) := hPw2.cell 5
  have ow20 : w2.cell? ⟨w.heap.size + 1, 0, none⟩ = some (.int .i64 0) := hOw2.cell 0
  have ow21 : w2.cell? ⟨w.heap.size + 1, 1, none⟩ = some (.int .i64 0) := hOw2.cell 1
  have ow22 : w2.cell? ⟨w.heap.size + 1, 2, none⟩ = some (.slice none 0 0) := hOw2.cell 2
  have ow23 : w2.cell? ⟨w.heap.size + 1, 3, none⟩ = some (.slice none 0 0) := hOw2.cell 3
  have rw20 : w2.cell? ⟨w.heap.size + 1 + 1, 0, none⟩ = some (.int .i64 fn) := hRw2.cell 0
  have rw21 : w2.cell? ⟨w.heap.size + 1 + 1, 1, none⟩ = some (.int .i64 0) := hRw2.cell 1
  have rw22 : w2.cell? ⟨w.heap.size + 1 + 1, 2, none⟩ = some (.slice none 0 0) := hRw2.cell 2
  have rw23 : w2.cell? ⟨w.heap.size + 1 + 1, 3, none⟩ = some (.slice none 0 0) := hRw2.cell 3
  have fow2 := hOw2.frozen
  have frw2 := hRw2.frozen
  have zPw2 := hPw2.lt
  have zOw2 := hOw2.lt
  have zRw2 := hRw2.lt
  have hbw2w := hb2w
  have HD : Hid (∀ X, Below w.heap.size w X → RdI X X.heap.size .u8 (some ⟨g, off, none⟩) (b.drop 2)) := Lib.hid (fun X h => by have h1 := HL.out; have h2 := HCP.out; rw [List.drop_eq_nil_of_le (by omega)]; exact RdI.nil)
  have sd : SlI w2 w2.heap.size .u8 (some ⟨g, off, none⟩) 0 0 (b.drop 2) := ⟨by rw [List.length_drop, HL.out], by have := HCP.out; omega, by have := (HB.out w2 hb2w).2.2.1; omega, (fun e => by cases e), HD.out w2 hb2w⟩
  have HFR := Lib.hid (from_any (some ⟨g, off, none⟩) 0 0 (b.drop 2) (by omega) w2 sd (fun x hx => hb8 x (List.mem_of_mem_drop hx)))
  clear sd
  go_wp2_with fail
  refine HFR.out.mono ?_
  rintro e wu ⟨Au, mu, cu, qu, rfl, su, hbu⟩
  have hbuw := hb2w.trans (hbu.mono hb2w.size)
  have hPwu := hPw2.below hbu hPw2.lt
  have hOwu := hOw2.below hbu hOw2.lt
  have hRwu := hRw2.below hbu hRw2.lt
  have pwu0 : wu.cell? ⟨w.heap.size, 0, none⟩ = some (.int .i64 fn) := hPwu.cell 0
  have pwu1 : wu.cell? ⟨w.heap.size, 1, none⟩ = some (.int .i64 addr) := hPwu.cell 1
  have pwu2 : wu.cell? ⟨w.heap.size, 2, none⟩ = some (.int .i64 count) := hPwu.cell 2
  have pwu3 : wu.cell? ⟨w.heap.size, 3, none⟩ = some (.int .i64 to) := hPwu.cell 3
  have pwu4 : wu.cell? ⟨w.heap.size, 4, none⟩ = some (.slice A nb cb) := hPwu.cell 4
  have pwu5 : wu.cell? ⟨w.heap.size, 5, none⟩ = some (.slice R nr cr) := hPwu.cell 5
  have owu0 : wu.cell? ⟨w.heap.size + 1, 0, none⟩ = some (.int .i64 0) := hOwu.cell 0
  have owu1 : wu.cell? ⟨w.heap.size + 1, 1, none⟩ = some (.int .i64 0) := hOwu.cell 1
  have owu2 : wu.cell? ⟨w.heap.size + 1, 2, none⟩ = some (.slice none 0 0) := hOwu.cell 2
  have owu3 : wu.cell? ⟨w.heap.size + 1, 3, none⟩ = some (.slice none 0 0) := hOwu.cell 3
  have rwu0 : wu.cell? ⟨w.heap.size + 1 + 1, 0, none⟩ = some (.int .i64 fn) := hRwu.cell 0
  have rwu1 : wu.cell? ⟨w.heap.size + 1 + 1, 1, none⟩ = some (.int .i64 0) := hRwu.cell 1
  have rwu2 : wu.cell? ⟨w.heap.size + 1 + 1, 2, none⟩ = some (.slice none 0 0) := hRwu.cell 2
  have rwu3 : wu.cell? ⟨w.heap.size + 1 + 1, 3, none⟩ = some (.slice none 0 0) := hRwu.cell 3
  have fowu := hOwu.frozen
  have frwu := hRwu.frozen
  have zPwu := hPwu.lt
  have zOwu := hOwu.lt
  have zRwu := hRwu.lt
  go_upto_region 10 with (fail)
  obtain ⟨wv, hwv⟩ : ∃ W, wu.setCell ⟨w.heap.size + 1 + 1, 3, none⟩ (.slice Au mu cu) = W := ⟨_, rfl⟩
  have hbwvw : Below w.heap.size w wv := by rw [← hwv]; exact hbuw.setCell (p := ⟨w.heap.size + 1 + 1, 3, none⟩) (by show w.heap.size ≤ w.heap.size + 1 + 1; omega) _
  have hPwv : Held wv w.heap.size 59 #[.int .i64 fn, .int .i64 addr, .int .i64 count, .int .i64 to, .slice A nb cb, .slice R nr cr] := by rw [← hwv]; exact hPwu.far (p := ⟨w.heap.size + 1 + 1, 3, none⟩) (by show w.heap.size ≠ w.heap.size + 1 + 1; omega) _
  have hOwv : Held wv (w.heap.size + 1) 68 #[.int .i64 0, .int .i64 0, .slice none 0 0, .slice none 0 0] := by rw [← hwv]; exact hOwu.far (p := ⟨w.heap.size + 1 + 1, 3, none⟩) (by show w.heap.size + 1 ≠ w.heap.size + 1 + 1; omega) _
  have hRwv : Held wv (w.heap.size + 1 + 1) 68 #[.int .i64 fn, .int .i64 0, .slice none 0 0, .slice Au mu cu] := by rw [← hwv]; exact hRwu.set 3 _
  rw [hwv]
  have hbwvw' := hbwvw
  have sv : SlI wv wv.heap.size .u16 Au mu cu (fromP (b.drop 2)) := su.off (by rw [← hwv]; exact (OffB.refl _ _).set 3 _) hRwu (by intro v hv x e; subst e; simp at hv)
  have hul : (fromP (b.drop 2)).length ≤ 100000 := by have h1 := wordsP_len (b.drop 2); have h2 := HL.out; unfold fromP; split; rw [h1, List.length_drop]; omega; simp
  have hur : Reg16 (fromP (b.drop 2)) := by unfold fromP; split; exact wordsP_reg (fun x hx => hb8 x (List.mem_of_mem_drop hx)); exact reg_nil
  clear su hPwu hOwu hwv hRwu
  have pwv0 : wv.cell? ⟨w.heap.size, 0, none⟩ = some (.int .i64 fn) := hPwv.cell 0
  have pwv1 : wv.cell? ⟨w.heap.size, 1, none⟩ = some (.int .i64 addr) := hPwv.cell 1
  have pwv2 : wv.cell? ⟨w.heap.size, 2, none⟩ = some (.int .i64 count) := hPwv.cell 2
  have pwv3 : wv.cell? ⟨w.heap.size, 3, none⟩ = some (.int .i64 to) := hPwv.cell 3
  have pwv4 : wv.cell? ⟨w.heap.size, 4, none⟩ = some (.slice A nb cb) := hPwv.cell 4
  have pwv5 : wv.cell? ⟨w.heap.size, 5, none⟩ = some (.slice R nr cr) := hPwv.cell 5
  have owv0 : wv.cell? ⟨w.heap.size + 1, 0, none⟩ = some (.int .i64 0) := hOwv.cell 0
  have owv1 : wv.cell? ⟨w.heap.size + 1, 1, none⟩ = some (.int .i64 0) := hOwv.cell 1
  have owv2 : wv.cell? ⟨w.heap.size + 1, 2, none⟩ = some (.slice none 0 0) := hOwv.cell 2
  have owv3 : wv.cell? ⟨w.heap.size + 1, 3, none⟩ = some (.slice none 0 0) := hOwv.cell 3
  have rwv0 : wv.cell? ⟨w.heap.size + 1 + 1, 0, none⟩ = some (.int .i64 fn) := hRwv.cell 0
  have rwv1 : wv.cell? ⟨w.heap.size + 1 + 1, 1, none⟩ = some (.int .i64 0) := hRwv.cell 1
  have rwv2 : wv.cell? ⟨w.heap.size + 1 + 1, 2, none⟩ = some (.slice none 0 0) := hRwv.cell 2
  have rwv3 : wv.cell? ⟨w.heap.size + 1 + 1, 3, none⟩ = some (.slice Au mu cu) := hRwv.cell 3
  have fowv := hOwv.frozen
  have frwv := hRwv.frozen
  have zPwv := hPwv.lt
  have zOwv := hOwv.lt
  have zRwv := hRwv.lt
  have HAN := Lib.hid (answer_own (.agg #[.int .i64 fn, .int .i64 addr, .int .i64 count, .int .i64 to, .slice A nb cb, .slice R nr cr]) (.agg #[.int .i64 fn, .int .i64 0, .slice none 0 0, .slice Au mu cu]) ⟨fn, addr, count, to, bs, regs⟩ (⟨fn, 0, [], fromP (b.drop 2)⟩ : RepP) wv (HT.out wv hbwvw) ⟨A, nb, cb, R, nr, cr, rfl, HA.out wv hbwvw, HR.out wv hbwvw⟩ ⟨none, 0, 0, Au, mu, cu, rfl, SlB.nil _ _, sv⟩ hy hur (by simp) hul h34.out)
  go_wp2_with (first | ((with_reducible refine at_loadT 59 2 ?_); refine wpList_load_rowG rfl 59 (.tmp 2) rfl w.heap.size rfl 59 _ _ hPwv hu rfl hsz ?_) | ((with_reducible refine at_loadT 68 6 ?_); refine wpList_load_rowG rfl 68 (.tmp 6) rfl (w.heap.size + 1 + 1) rfl 68 _ _ hRwv hu4 rfl hsz4 ?_))
  refine HAN.out.mono ?_
  rintro e wq ⟨Aq, nq, cq, rfl, sq, hbq⟩
  have hbqw := hbwvw.trans (hbq.mono hbwvw.size)
  have hPwq := hPwv.below hbq hPwv.lt
  have hOwq := hOwv.below hbq hOwv.lt
  have hRwq := hRwv.below hbq hRwv.lt
  have pwq0 : wq.cell? ⟨w.heap.size, 0, none⟩ = some (.int .i64 fn) := hPwq.cell 0
  have pwq1 : wq.cell? ⟨w.heap.size, 1, none⟩ = some (.int .i64 addr) := hPwq.cell 1
  have pwq2 : wq.cell? ⟨w.heap.size, 2, none⟩ = some (.int .i64 count) := hPwq.cell 2
  have pwq3 : wq.cell? ⟨w.heap.size, 3, none⟩ = some (.int .i64 to) := hPwq.cell 3
  have pwq4 : wq.cell? ⟨w.heap.size, 4, none⟩ = some (.slice A nb cb) := hPwq.cell 4
  have pwq5 : wq.cell? ⟨w.heap.size, 5, none⟩ = some (.slice R nr cr) := hPwq.cell 5
  have owq0 : wq.cell? ⟨w.heap.size + 1, 0, none⟩ = some (.int .i64 0) := hOwq.cell 0
  have owq1 : wq.cell? ⟨w.heap.size + 1, 1, none⟩ = some (.int .i64 0) := hOwq.cell 1
  have owq2 : wq.cell? ⟨w.heap.size + 1, 2, none⟩ = some (.slice none 0 0) := hOwq.cell 2
  have owq3 : wq.cell? ⟨w.heap.size + 1, 3, none⟩ = some (.slice none 0 0) := hOwq.cell 3
  have rwq0 : wq.cell? ⟨w.heap.size + 1 + 1, 0, none⟩ = some (.int .i64 fn) := hRwq.cell 0
  have rwq1 : wq.cell? ⟨w.heap.size + 1 + 1, 1, none⟩ = some (.int .i64 0) := hRwq.cell 1
  have rwq2 : wq.cell? ⟨w.heap.size + 1 + 1, 2, none⟩ = some (.slice none 0 0) := hRwq.cell 2
  have rwq3 : wq.cell? ⟨w.heap.size + 1 + 1, 3, none⟩ = some (.slice Au mu cu) := hRwq.cell 3
  have fowq := hOwq.frozen
  have frwq := hRwq.frozen
  have zPwq := hPwq.lt
  have zOwq := hOwq.lt
  have zRwq := hRwq.lt
  have hbwqw := hbqw
  cases han : answerP ⟨fn, addr, count, to, bs, regs⟩ (⟨fn, 0, [], fromP (b.drop 2)⟩ : RepP) with
  | none =>
    have hfz : readAnswerP ⟨fn, addr, count, to, bs, regs⟩ b = none := by rw [HF.out, han]; rfl
    have HZ := Lib.hid hfz
    have he : errV (none : Option (List Int)).isSome = 190 := rfl
    rw [he]
    clear han hfz he
    go_wp2_with fail
    obtain ⟨wz, hwz⟩ : ∃ W, ((((wq.setCell ⟨w.heap.size + 1, 0, none⟩ (.int .i64 0)).setCell ⟨w.heap.size + 1, 1, none⟩ (.int .i64 0)).setCell ⟨w.heap.size + 1, 2, none⟩ (.slice none 0 0)).setCell ⟨w.heap.size + 1, 3, none⟩ (.slice none 0 0)) = W := ⟨_, rfl⟩
    have hZ : Held wz (w.heap.size + 1) 68 #[.int .i64 0, .int .i64 0, .slice none 0 0, .slice none 0 0] := by rw [← hwz]; exact (((hOwq.set 0 _).set 1 _).set 2 _).set 3 _
    have hbz : Below w.heap.size w wz := by rw [← hwz]; exact ((((hbwqw.setCell (p := ⟨w.heap.size + 1, 0, none⟩) (by simp) _).setCell (p := ⟨w.heap.size + 1, 1, none⟩) (by simp) _).setCell (p := ⟨w.heap.size + 1, 2, none⟩) (by simp) _).setCell (p := ⟨w.heap.size + 1, 3, none⟩) (by simp) _)
    have hoff : OffB wq wz (w.heap.size + 1) := by rw [← hwz]; exact ((((OffB.refl _ _).set 0 _).set 1 _).set 2 _).set 3 _
    have z0 : wz.cell? ⟨w.heap.size + 1, 0, none⟩ = some (.int .i64 0) := hZ.cell 0
    have z1 : wz.cell? ⟨w.heap.size + 1, 1, none⟩ = some (.int .i64 0) := hZ.cell 1
    have z2 : wz.cell? ⟨w.heap.size + 1, 2, none⟩ = some (.slice none 0 0) := hZ.cell 2
    have z3 : wz.cell? ⟨w.heap.size + 1, 3, none⟩ = some (.slice none 0 0) := hZ.cell 3
    rw [hwz]
    exact bodyPost_ret (v := .tuple #[.agg #[.int .i64 0, .int .i64 0, .slice none 0 0, .slice none 0 0], .int .i64 190]) (by simp [results, Tryd.results30, go_sem, z0, z1, z2, z3]) rfl (ra_none (HZ.out) hbz)
  | some x =>
    have he : errV (some x : Option (List Int)).isSome = 0 := rfl
    rw [he]
    rw [han] at sq
    have hx8 : Byte8 x := (reply_read _ _ x hur hy han).2.2.2.1
    have HEQ := Lib.hid (equal_bytes Aq (some ⟨g, off, none⟩) nq cq 2 2 x b wq sq (HB.out wq hbqw) hx8 hb8)
    by_cases hxb : x = b
    · have hfz : readAnswerP ⟨fn, addr, count, to, bs, regs⟩ b = some (⟨fn, 0, [], fromP (b.drop 2)⟩ : RepP) := by rw [HF.out, han, if_pos (by rw [hxb])]
      have HZ := Lib.hid hfz
      rw [decide_eq_true hxb] at HEQ
      clear han hfz he hxb sq hx8
      go_wp2_with (go_at_call 71; (with_reducible refine HEQ.out.mono ?_); rintro e w' ⟨rfl, rfl⟩)
      obtain ⟨wz, hwz⟩ : ∃ W, ((((wq.setCell ⟨w.heap.size + 1, 0, none⟩ (.int .i64 fn)).setCell ⟨w.heap.size + 1, 1, none⟩ (.int .i64 0)).setCell ⟨w.heap.size + 1, 2, none⟩ (.slice none 0 0)).setCell ⟨w.heap.size + 1, 3, none⟩ (.slice Au mu cu)) = W := ⟨_, rfl⟩
      have hZ : Held wz (w.heap.size + 1) 68 #[.int .i64 fn, .int .i64 0, .slice none 0 0, .slice Au mu cu] := by rw [← hwz]; exact (((hOwq.set 0 _).set 1 _).set 2 _).set 3 _
      have hbz : Below w.heap.size w wz := by rw [← hwz]; exact ((((hbwqw.setCell (p := ⟨w.heap.size + 1, 0, none⟩) (by simp) _).setCell (p := ⟨w.heap.size + 1, 1, none⟩) (by simp) _).setCell (p := ⟨w.heap.size + 1, 2, none⟩) (by simp) _).setCell (p := ⟨w.heap.size + 1, 3, none⟩) (by simp) _)
      have hoff : OffB wq wz (w.heap.size + 1) := by rw [← hwz]; exact ((((OffB.refl _ _).set 0 _).set 1 _).set 2 _).set 3 _
      have z0 : wz.cell? ⟨w.heap.size + 1, 0, none⟩ = some (.int .i64 fn) := hZ.cell 0
      have z1 : wz.cell? ⟨w.heap.size + 1, 1, none⟩ = some (.int .i64 0) := hZ.cell 1
      have z2 : wz.cell? ⟨w.heap.size + 1, 2, none⟩ = some (.slice none 0 0) := hZ.cell 2
      have z3 : wz.cell? ⟨w.heap.size + 1, 3, none⟩ = some (.slice Au mu cu) := hZ.cell 3
      rw [hwz]
      exact bodyPost_ret (v := .tuple #[.agg #[.int .i64 fn, .int .i64 0, .slice none 0 0, .slice Au mu cu], .int .i64 0]) (by simp [results, Tryd.results30, go_sem, z0, z1, z2, z3]) rfl (ra_some HZ.out ⟨none, 0, 0, Au, mu, cu, rfl, SlB.nil _ _, (sv.up hbq).off hoff hOwq (by intro v hv x e; subst e; simp at hv)⟩ hbz)
    · have hfz : readAnswerP ⟨fn, addr, count, to, bs, regs⟩ b = none := by rw [HF.out, han, if_neg (by simpa using hxb)]
      have HZ := Lib.hid hfz
      rw [decide_eq_false hxb] at HEQ
      clear han hfz he hxb sq hx8
      go_wp2_with (go_at_call 71; (with_reducible refine HEQ.out.mono ?_); rintro e w' ⟨rfl, rfl⟩)
      obtain ⟨wz, hwz⟩ : ∃ W, ((((wq.setCell ⟨w.heap.size + 1, 0, none⟩ (.int .i64 0)).setCell ⟨w.heap.size + 1, 1, none⟩ (.int .i64 0)).setCell ⟨w.heap.size + 1, 2, none⟩ (.slice none 0 0)).setCell ⟨w.heap.size + 1, 3, none⟩ (.slice none 0 0)) = W := ⟨_, rfl⟩
      have hZ : Held wz (w.heap.size + 1) 68 #[.int .i64 0, .int .i64 0, .slice none 0 0, .slice none 0 0] := by rw [← hwz]; exact (((hOwq.set 0 _).set 1 _).set 2 _).set 3 _
      have hbz : Below w.heap.size w wz := by rw [← hwz]; exact ((((hbwqw.setCell (p := ⟨w.heap.size + 1, 0, none⟩) (by simp) _).setCell (p := ⟨w.heap.size + 1, 1, none⟩) (by simp) _).setCell (p := ⟨w.heap.size + 1, 2, none⟩) (by simp) _).setCell (p := ⟨w.heap.size + 1, 3, none⟩) (by simp) _)
      have hoff : OffB wq wz (w.heap.size + 1) := by rw [← hwz]; exact ((((OffB.refl _ _).set 0 _).set 1 _).set 2 _).set 3 _
      have z0 : wz.cell? ⟨w.heap.size + 1, 0, none⟩ = some (.int .i64 0) := hZ.cell 0
      have z1 : wz.cell? ⟨w.heap.size + 1, 1, none⟩ = some (.int .i64 0) := hZ.cell 1
      have z2 : wz.cell? ⟨w.heap.size + 1, 2, none⟩ = some (.slice none 0 0) := hZ.cell 2
      have z3 : wz.cell? ⟨w.heap.size + 1, 3, none⟩ = some (.slice none 0 0) := hZ.cell 3
      rw [hwz]
      exact bodyPost_ret (v := .tuple #[.agg #[.int .i64 0, .int .i64 0, .slice none 0 0, .slice none 0 0], .int .i64 190]) (by simp [results, Tryd.results30, go_sem, z0, z1, z2, z3]) rfl (ra_none (HZ.out) hbz)
set_option maxRecDepth 100000 in
set_option maxHeartbeats 2000000 in
theorem ra3r (fn addr count to : Int) (bs : List Bool) (regs : List Int) (A : Option Addr) (nb cb : Nat) (R : Option Addr) (nr cr : Nat) (g off n c : Nat) (b : List Int) (w : World) (h34 : Hid (fn = 3 ∨ fn = 4)) (hT : LimT w) (hA : SlB w w.heap.size A nb cb bs) (hR : SlI w w.heap.size .u16 R nr cr regs) (hy : Reg16 regs) (hB : SlI w w.heap.size .u8 (some ⟨g, off, none⟩) n c b) (hb8 : Byte8 b) (hn : n ≤ 1000) (hn2 : 2 ≤ n) (x0 : Int) (hx0 : b[0]? = some x0) (q : Int) (hq : bits BinOp.or IntKind.i64 fn 128 = q) (hfin : readAnswerP ⟨fn, addr, count, to, bs, regs⟩ b = if answerP ⟨fn, addr, count, to, bs, regs⟩ (⟨fn, 0, [], fromP (b.drop 2)⟩ : RepP) = some b then some (⟨fn, 0, [], fromP (b.drop 2)⟩ : RepP) else none) (ht : x0 ≠ q) (h2 : 2 < fn) (h4 : fn ≤ 4) (hcc : 2 < c) : Calls Tryd.prog 30 #[.agg #[.int .i64 fn, .int .i64 addr, .int .i64 count, .int .i64 to, .slice A nb cb, .slice R nr cr], .slice (some ⟨g, off, none⟩) n c] w (RaPost w ⟨fn, addr, count, to, bs, regs⟩ b) := by
  obtain ⟨w1, hw1⟩ : ∃ w1, ((w.alloc (.cells #[.int .i64 fn, .int .i64 addr, .int .i64 count, .int .i64 to, .slice A nb cb, .slice R nr cr] 59)).alloc (.cells #[.int .i64 0, .int .i64 0, .slice none 0 0, .slice none 0 0] 68)).alloc (.cells #[.int .i64 fn, .int .i64 0, .slice none 0 0, .slice none 0 0] 68) = w1 := ⟨_, rfl⟩
  have hb1 : Below w.heap.size w w1 := by rw [← hw1]; exact (((Below.refl _ w).alloc (Nat.le_refl _) _).alloc (by simp) _).alloc (by simp; omega) _
  have hz1 : w1.heap.size = w.heap.size + 3 := by rw [← hw1]; simp
  have hP1 : Held w1 w.heap.size 59 #[.int .i64 fn, .int .i64 addr, .int .i64 count, .int .i64 to, .slice A nb cb, .slice R nr cr] := by rw [← hw1]; exact ((Held.new w _ _).alloc _).alloc _
  have hO1 : Held w1 (w.heap.size + 1) 68 #[.int .i64 0, .int .i64 0, .slice none 0 0, .slice none 0 0] := by rw [← hw1]; have := Held.new (w.alloc (.cells #[.int .i64 fn, .int .i64 addr, .int .i64 count, .int .i64 to, .slice A nb cb, .slice R nr cr] 59)) 68 #[.int .i64 0, .int .i64 0, .slice none 0 0, .slice none 0 0]; rw [World.size_alloc] at this; exact this.alloc _
  have hR1 : Held w1 (w.heap.size + 1 + 1) 68 #[.int .i64 fn, .int .i64 0, .slice none 0 0, .slice none 0 0] := by rw [← hw1]; have := Held.new ((w.alloc (.cells #[.int .i64 fn, .int .i64 addr, .int .i64 count, .int .i64 to, .slice A nb cb, .slice R nr cr] 59)).alloc (.cells #[.int .i64 0, .int .i64 0, .slice none 0 0, .slice none 0 0] 68)) 68 #[.int .i64 fn, .int .i64 0, .slice none 0 0, .slice none 0 0]; rw [World.size_alloc, World.size_alloc] at this; exact this
  have hu := Tryd.underlying59
  have hsz : (Tryd.prog.info? 59).map (·.size) = some 6 := by kernel_rfl
  have hu4 := Tryd.underlying68
  have hsz4 : (Tryd.prog.info? 68).map (·.size) = some 4 := by kernel_rfl
  have HT := Lib.hid (fun (X : World) (h : Below w.heap.size w X) => hT.up h)
  have HA := Lib.hid (fun (X : World) (h : Below w.heap.size w X) => hA.up h)
  have HR := Lib.hid (fun (X : World) (h : Below w.heap.size w X) => hR.up h)
  have HB := Lib.hid (fun (X : World) (h : Below w.heap.size w X) => hB.up h)
  have HW1 := Lib.hid hw1
  clear hw1
  have HL := Lib.hid hB.1
  have HCP := Lib.hid hB.2.1
  have hn2' : ¬ (n : Int) < 2 := by omega
  have hn0 : 0 < n := by omega
  obtain ⟨x00, x01⟩ := hb8 x0 (List.mem_of_getElem? hx0)
  have wx0 : IntKind.i64.wrap x0 = x0 := IntWalk.i64_in _ (by omega)
  have HF : Hid (readAnswerP ⟨fn, addr, count, to, bs, regs⟩ b = if answerP ⟨fn, addr, count, to, bs, regs⟩ (⟨fn, 0, [], fromP (b.drop 2)⟩ : RepP) = some b then some (⟨fn, 0, [], fromP (b.drop 2)⟩ : RepP) else none) := Lib.hid hfin
  have ht2 : (x0 == q) = false := by simpa using ht
  clear ht hfin
  have h2' : ¬ fn ≤ 2 := by omega
  have hnc : (n : Int) ≤ (c : Int) := by have := HCP.out; omega
  clear hT hA hR hB
  go_in
  go_upto_region 2 with (fail)
  rw [HW1.out]
  obtain ⟨w2, hw2⟩ : ∃ w2 : World, w1.drew = w2 := ⟨_, rfl⟩
  have hb2w : Below w.heap.size w w2 := by rw [← hw2]; exact hb1.drew
  have hPw2 : Held w2 w.heap.size 59 #[.int .i64 fn, .int .i64 addr, .int .i64 count, .int .i64 to, .slice A nb cb, .slice R nr cr] := by rw [← hw2]; exact hP1
  have hOw2 : Held w2 (w.heap.size + 1) 68 #[.int .i64 0, .int .i64 0, .slice none 0 0, .slice none 0 0] := by rw [← hw2]; exact hO1
  have hRw2 : Held w2 (w.heap.size + 1 + 1) 68 #[.int .i64 fn, .int .i64 0, .slice none 0 0, .slice none 0 0] := by rw [← hw2]; exact hR1
  have HX0 : Hid (∀ W, Below w2.heap.size w2 W → W.cell? ⟨g, off, none⟩ = some (.int .u8 x0)) := Lib.hid (fun W h => by
    obtain ⟨g', o', e, hlt, hc⟩ := (HB.out W (hb2w.trans (h.mono hb2w.size))).2.2.2.2 (by rw [HL.out]; omega)
    injection e with e
    injection e with e1 e2
    subst e1 e2
    exact hc 0 x0 hx0)
  clear hP1 hO1 hR1
  go_wp2_with fail
  refine wp_region_held (S := Below w2.heap.size w2) (by kernel_rfl) ?_
  change wpAnyH _ _ _ _ _ _ _ _ w1.drew
  rw [hw2]
  have hS := Below.refl w2.heap.size w2
  refine wpAnyH_take (i := 0) (v := ?v0_1) rfl (by kernel_rfl) (by kernel_rfl) (by kernel_rfl) (fun _ _ _ h => h) (Or.inl ⟨by rfl, ?y0_1⟩) hS ?r0_1
  case y0_1 =>
    rintro W hH
    have hPW := hPw2.below hH hPw2.lt
    have q0 : W.cell? ⟨w.heap.size, 0, none⟩ = some (.int .i64 fn) := hPW.cell 0
    have q1 := HX0.out W hH
    clear hPW
    go_simp
    with_reducible rfl
  simp only [Act.put]
  try simp only [List.getElem_toArray, List.getElem_cons_zero]
  try simp only [List.setIfInBounds_toArray, List.set_cons_succ, List.set_cons_zero]
  refine wpAnyH_take (i := 1) (v := ?v1_2) rfl (by kernel_rfl) (by kernel_rfl) (by kernel_rfl) (fun _ _ _ h => h) (Or.inl ⟨by rfl, ?y1_2⟩) hS ?r1_2
  case y1_2 =>
    rintro W hH
    have hPW := hPw2.below hH hPw2.lt
    have q0 : W.cell? ⟨w.heap.size, 0, none⟩ = some (.int .i64 fn) := hPW.cell 0
    have q1 := HX0.out W hH
    clear hPW
    go_simp
    with_reducible rfl
  simp only [Act.put]
  try simp only [List.getElem_toArray, List.getElem_cons_succ, List.getElem_cons_zero]
  try simp only [List.setIfInBounds_toArray, List.set_cons_succ, List.set_cons_zero]
  refine wpAnyH_take (i := 2) (v := ?v2_3) rfl (by kernel_rfl) (by kernel_rfl) (by kernel_rfl) (fun _ _ _ h => h) (Or.inl ⟨by rfl, ?y2_3⟩) hS ?r2_3
  case y2_3 =>
    rintro W hH
    have hPW := hPw2.below hH hPw2.lt
    have q0 : W.cell? ⟨w.heap.size, 0, none⟩ = some (.int .i64 fn) := hPW.cell 0
    have q1 := HX0.out W hH
    clear hPW
    go_simp
    with_reducible rfl
  simp only [Act.put]
  try simp only [List.getElem_toArray, List.getElem_cons_succ, List.getElem_cons_zero]
  try simp only [List.setIfInBounds_toArray, List.set_cons_succ, List.set_cons_zero]
  refine wpAnyH_take (i := 3) (v := ?v3_4) rfl (by kernel_rfl) (by kernel_rfl) (by kernel_rfl) (fun _ _ _ h => h) (Or.inl ⟨by rfl, ?y3_4⟩) hS ?r3_4
  case y3_4 =>
    rintro W hH
    have hPW := hPw2.below hH hPw2.lt
    have q0 : W.cell? ⟨w.heap.size, 0, none⟩ = some (.int .i64 fn) := hPW.cell 0
    have q1 := HX0.out W hH
    clear hPW
    go_simp
    with_reducible rfl
  simp only [Act.put]
  try simp only [List.getElem_toArray, List.getElem_cons_succ, List.getElem_cons_zero]
  try simp only [List.setIfInBounds_toArray, List.set_cons_succ, List.set_cons_zero]
  refine wpAnyH_take (i := 4) (v := ?v4_5) rfl (by kernel_rfl) (by kernel_rfl) (by kernel_rfl) (fun _ _ _ h => h) (Or.inl ⟨by rfl, ?y4_5⟩) hS ?r4_5
  case y4_5 =>
    rintro W hH
    have hPW := hPw2.below hH hPw2.lt
    have q0 : W.cell? ⟨w.heap.size, 0, none⟩ = some (.int .i64 fn) := hPW.cell 0
    have q1 := HX0.out W hH
    clear hPW
    go_simp
    with_reducible rfl
  simp only [Act.put]
  try simp only [List.getElem_toArray, List.getElem_cons_succ, List.getElem_cons_zero]
  try simp only [List.setIfInBounds_toArray, List.set_cons_succ, List.set_cons_zero]
  refine wpAnyH_take (i := 5) (v := ?v5_6) rfl (by kernel_rfl) (by kernel_rfl) (by kernel_rfl) (fun _ _ _ h => h) (Or.inl ⟨by rfl, ?y5_6⟩) hS ?r5_6
  case y5_6 =>
    rintro W hH
    have hPW := hPw2.below hH hPw2.lt
    have q0 : W.cell? ⟨w.heap.size, 0, none⟩ = some (.int .i64 fn) := hPW.cell 0
    have q1 := HX0.out W hH
    clear hPW
    go_simp
    with_reducible rfl
  simp only [Act.put]
  try simp only [List.getElem_toArray, List.getElem_cons_succ, List.getElem_cons_zero]
  try simp only [List.setIfInBounds_toArray, List.set_cons_succ, List.set_cons_zero]
  refine wpAnyH_take (i := 6) (v := ?v6_7) rfl (by kernel_rfl) (by kernel_rfl) (by kernel_rfl) (fun _ _ _ h => h) (Or.inl ⟨by rfl, ?y6_7⟩) hS ?r6_7
  case y6_7 =>
    rintro W hH
    have hPW := hPw2.below hH hPw2.lt
    have q0 : W.cell? ⟨w.heap.size, 0, none⟩ = some (.int .i64 fn) := hPW.cell 0
    have q1 := HX0.out W hH
    clear hPW
    go_simp
    with_reducible rfl
  simp only [Act.put]
  try simp only [List.getElem_toArray, List.getElem_cons_succ, List.getElem_cons_zero]
  try simp only [List.setIfInBounds_toArray, List.set_cons_succ, List.set_cons_zero]
  refine wpAnyH_take (i := 7) (v := ?v7_8) rfl (by kernel_rfl) (by kernel_rfl) (by kernel_rfl) (fun _ _ _ h => h) (Or.inl ⟨by rfl, ?y7_8⟩) hS ?r7_8
  case y7_8 =>
    rintro W hH
    have hPW := hPw2.below hH hPw2.lt
    have q0 : W.cell? ⟨w.heap.size, 0, none⟩ = some (.int .i64 fn) := hPW.cell 0
    have q1 := HX0.out W hH
    clear hPW
    go_simp
    with_reducible rfl
  simp only [Act.put]
  try simp only [List.getElem_toArray, List.getElem_cons_succ, List.getElem_cons_zero]
  try simp only [List.setIfInBounds_toArray, List.set_cons_succ, List.set_cons_zero]
  refine wpAnyH_take (i := 8) (v := ?v8_9) rfl (by kernel_rfl) (by kernel_rfl) (by kernel_rfl) (fun _ _ _ h => h) (Or.inl ⟨by rfl, ?y8_9⟩) hS ?r8_9
  case y8_9 =>
    rintro W hH
    have hPW := hPw2.below hH hPw2.lt
    have q0 : W.cell? ⟨w.heap.size, 0, none⟩ = some (.int .i64 fn) := hPW.cell 0
    have q1 := HX0.out W hH
    clear hPW
    go_simp
    with_reducible rfl
  simp only [Act.put]
  try simp only [List.getElem_toArray, List.getElem_cons_succ, List.getElem_cons_zero]
  try simp only [List.setIfInBounds_toArray, List.set_cons_succ, List.set_cons_zero]
  refine wpAnyH_done (by kernel_rfl) ?_ _
  clear hS
  have pw20 : w2.cell? ⟨w.heap.size, 0, none⟩ = some (.int .i64 fn) := hPw2.cell 0
  have pw21 : w2.cell? ⟨w.heap.size, 1, none⟩ = some (.int .i64 addr) := hPw2.cell 1
  have pw22 : w2.cell? ⟨w.heap.size, 2, none⟩ = some (.int .i64 count) := hPw2.cell 2
  have pw23 : w2.cell? ⟨w.heap.size, 3, none⟩ = some (.int .i64 to) := hPw2.cell 3
  have pw24 : w2.cell? ⟨w.heap.size, 4, none⟩ = some (.slice A nb cb) := hPw2.cell 4
  have pw25 : w2.cell? ⟨w.heap.size, 5, none⟩ = some (.slice R nr cr) := hPw2.cell 5
  have ow20 : w2.cell? ⟨w.heap.size + 1, 0, none⟩ = some (.int .i64 0) := hOw2.cell 0
  have ow21 : w2.cell? ⟨w.heap.size + 1, 1, none⟩ = some (.int .i64 0) := hOw2.cell 1
  have ow22 : w2.cell? ⟨w.heap.size + 1, 2, none⟩ = some (.slice none 0 0) := hOw2.cell 2
  have ow23 : w2.cell? ⟨w.heap.size + 1, 3, none⟩ = some (.slice none 0 0) := hOw2.cell 3
  have rw20 : w2.cell? ⟨w.heap.size + 1 + 1, 0, none⟩ = some (.int .i64 fn) := hRw2.cell 0
  have rw21 : w2.cell? ⟨w.heap.size + 1 + 1, 1, none⟩ = some (.int .i64 0) := hRw2.cell 1
  have rw22 : w2.cell? ⟨w.heap.size + 1 + 1, 2, none⟩ = some (.slice none 0 0) := hRw2.cell 2
  have rw23 : w2.cell? ⟨w.heap.size + 1 + 1, 3, none⟩ = some (.slice none 0 0) := hRw2.cell 3
  have fow2 := hOw2.frozen
  have frw2 := hRw2.frozen
  have zPw2 := hPw2.lt
  have zOw2 := hOw2.lt
  have zRw2 := hRw2.lt
  have hbw2w := hb2w
  have HD : Hid (∀ X, Below w.heap.size w X → RdI X X.heap.size .u8 (some ⟨g, off + 2, none⟩) (b.drop 2)) := Lib.hid (fun X h => ((HB.out X h).2.2.2.2.drop 2 (some ⟨g, off + 2, none⟩) (fun g' o' e _ => by injection e with e; injection e with e1 e2; subst e1 e2; rfl)))
  have sd : SlI w2 w2.heap.size .u8 (some ⟨g, off + 2, none⟩) (n - 2) (c - 2) (b.drop 2) := ⟨by rw [List.length_drop, HL.out], by have := HCP.out; omega, by have := (HB.out w2 hb2w).2.2.1; omega, (fun e => by cases e), HD.out w2 hb2w⟩
  have HFR := Lib.hid (from_any (some ⟨g, off + 2, none⟩) (n - 2) (c - 2) (b.drop 2) (by omega) w2 sd (fun x hx => hb8 x (List.mem_of_mem_drop hx)))
  clear sd
  go_wp2_with fail
  refine HFR.out.mono ?_
  rintro e wu ⟨Au, mu, cu, qu, rfl, su, hbu⟩
  have hbuw := hb2w.trans (hbu.mono hb2w.size)
  have hPwu := hPw2.below hbu hPw2.lt
  have hOwu := hOw2.below hbu hOw2.lt
  have hRwu := hRw2.below hbu hRw2.lt
  have pwu0 : wu.cell? ⟨w.heap.size, 0, none⟩ = some (.int .i64 fn) := hPwu.cell 0
  have pwu1 : wu.cell? ⟨w.heap.size, 1, none⟩ = some (.int .i64 addr) := hPwu.cell 1
  have pwu2 : wu.cell? ⟨w.heap.size, 2, none⟩ = some (.int .i64 count) := hPwu.cell 2
  have pwu3 : wu.cell? ⟨w.heap.size, 3, none⟩ = some (.int .i64 to) := hPwu.cell 3
  have pwu4 : wu.cell? ⟨w.heap.size, 4, none⟩ = some (.slice A nb cb) := hPwu.cell 4
  have pwu5 : wu.cell? ⟨w.heap.size, 5, none⟩ = some (.slice R nr cr) := hPwu.cell 5
  have owu0 : wu.cell? ⟨w.heap.size + 1, 0, none⟩ = some (.int .i64 0) := hOwu.cell 0
  have owu1 : wu.cell? ⟨w.heap.size + 1, 1, none⟩ = some (.int .i64 0) := hOwu.cell 1
  have owu2 : wu.cell? ⟨w.heap.size + 1, 2, none⟩ = some (.slice none 0 0) := hOwu.cell 2
  have owu3 : wu.cell? ⟨w.heap.size + 1, 3, none⟩ = some (.slice none 0 0) := hOwu.cell 3
  have rwu0 : wu.cell? ⟨w.heap.size + 1 + 1, 0, none⟩ = some (.int .i64 fn) := hRwu.cell 0
  have rwu1 : wu.cell? ⟨w.heap.size + 1 + 1, 1, none⟩ = some (.int .i64 0) := hRwu.cell 1
  have rwu2 : wu.cell? ⟨w.heap.size + 1 + 1, 2, none⟩ = some (.slice none 0 0) := hRwu.cell 2
  have rwu3 : wu.cell? ⟨w.heap.size + 1 + 1, 3, none⟩ = some (.slice none 0 0) := hRwu.cell 3
  have fowu := hOwu.frozen
  have frwu := hRwu.frozen
  have zPwu := hPwu.lt
  have zOwu := hOwu.lt
  have zRwu := hRwu.lt
  go_upto_region 10 with (fail)
  obtain ⟨wv, hwv⟩ : ∃ W, wu.setCell ⟨w.heap.size + 1 + 1, 3, none⟩ (.slice Au mu cu) = W := ⟨_, rfl⟩
  have hbwvw : Below w.heap.size w wv := by rw [← hwv]; exact hbuw.setCell (p := ⟨w.heap.size + 1 + 1, 3, none⟩) (by show w.heap.size ≤ w.heap.size + 1 + 1; omega) _
  have hPwv : Held wv w.heap.size 59 #[.int .i64 fn, .int .i64 addr, .int .i64 count, .int .i64 to, .slice A nb cb, .slice R nr cr] := by rw [← hwv]; exact hPwu.far (p := ⟨w.heap.size + 1 + 1, 3, none⟩) (by show w.heap.size ≠ w.heap.size + 1 + 1; omega) _
  have hOwv : Held wv (w.heap.size + 1) 68 #[.int .i64 0, .int .i64 0, .slice none 0 0, .slice none 0 0] := by rw [← hwv]; exact hOwu.far (p := ⟨w.heap.size + 1 + 1, 3, none⟩) (by show w.heap.size + 1 ≠ w.heap.size + 1 + 1; omega) _
  have hRwv : Held wv (w.heap.size + 1 + 1) 68 #[.int .i64 fn, .int .i64 0, .slice none 0 0, .slice Au mu cu] := by rw [← hwv]; exact hRwu.set 3 _
  rw [hwv]
  have hbwvw' := hbwvw
  have sv : SlI wv wv.heap.size .u16 Au mu cu (fromP (b.drop 2)) := su.off (by rw [← hwv]; exact (OffB.refl _ _).set 3 _) hRwu (by intro v hv x e; subst e; simp at hv)
  have hul : (fromP (b.drop 2)).length ≤ 100000 := by have h1 := wordsP_len (b.drop 2); have h2 := HL.out; unfold fromP; split; rw [h1, List.length_drop]; omega; simp
  have hur : Reg16 (fromP (b.drop 2)) := by unfold fromP; split; exact wordsP_reg (fun x hx => hb8 x (List.mem_of_mem_drop hx)); exact reg_nil
  clear su hPwu hOwu hwv hRwu
  have pwv0 : wv.cell? ⟨w.heap.size, 0, none⟩ = some (.int .i64 fn) := hPwv.cell 0
  have pwv1 : wv.cell? ⟨w.heap.size, 1, none⟩ = some (.int .i64 addr) := hPwv.cell 1
  have pwv2 : wv.cell? ⟨w.heap.size, 2, none⟩ = some (.int .i64 count) := hPwv.cell 2
  have pwv3 : wv.cell? ⟨w.heap.size, 3, none⟩ = some (.int .i64 to) := hPwv.cell 3
  have pwv4 : wv.cell? ⟨w.heap.size, 4, none⟩ = some (.slice A nb cb) := hPwv.cell 4
  have pwv5 : wv.cell? ⟨w.heap.size, 5, none⟩ = some (.slice R nr cr) := hPwv.cell 5
  have owv0 : wv.cell? ⟨w.heap.size + 1, 0, none⟩ = some (.int .i64 0) := hOwv.cell 0
  have owv1 : wv.cell? ⟨w.heap.size + 1, 1, none⟩ = some (.int .i64 0) := hOwv.cell 1
  have owv2 : wv.cell? ⟨w.heap.size + 1, 2, none⟩ = some (.slice none 0 0) := hOwv.cell 2
  have owv3 : wv.cell? ⟨w.heap.size + 1, 3, none⟩ = some (.slice none 0 0) := hOwv.cell 3
  have rwv0 : wv.cell? ⟨w.heap.size + 1 + 1, 0, none⟩ = some (.int .i64 fn) := hRwv.cell 0
  have rwv1 : wv.cell? ⟨w.heap.size + 1 + 1, 1, none⟩ = some (.int .i64 0) := hRwv.cell 1
  have rwv2 : wv.cell? ⟨w.heap.size + 1 + 1, 2, none⟩ = some (.slice none 0 0) := hRwv.cell 2
  have rwv3 : wv.cell? ⟨w.heap.size + 1 + 1, 3, none⟩ = some (.slice Au mu cu) := hRwv.cell 3
  have fowv := hOwv.frozen
  have frwv := hRwv.frozen
  have zPwv := hPwv.lt
  have zOwv := hOwv.lt
  have zRwv := hRwv.lt
  have HAN := Lib.hid (answer_own (.agg #[.int .i64 fn, .int .i64 addr, .int .i64 count, .int .i64 to, .slice A nb cb, .slice R nr cr]) (.agg #[.int .i64 fn, .int .i64 0, .slice none 0 0, .slice Au mu cu]) ⟨fn, addr, count, to, bs, regs⟩ (⟨fn, 0, [], fromP (b.drop 2)⟩ : RepP) wv (HT.out wv hbwvw) ⟨A, nb, cb, R, nr, cr, rfl, HA.out wv hbwvw, HR.out wv hbwvw⟩ ⟨none, 0, 0, Au, mu, cu, rfl, SlB.nil _ _, sv⟩ hy hur (by simp) hul h34.out)
  go_wp2_with (first | ((with_reducible refine at_loadT 59 2 ?_); refine wpList_load_rowG rfl 59 (.tmp 2) rfl w.heap.size rfl 59 _ _ hPwv hu rfl hsz ?_) | ((with_reducible refine at_loadT 68 6 ?_); refine wpList_load_rowG rfl 68 (.tmp 6) rfl (w.heap.size + 1 + 1) rfl 68 _ _ hRwv hu4 rfl hsz4 ?_))
  refine HAN.out.mono ?_
  rintro e wq ⟨Aq, nq, cq, rfl, sq, hbq⟩
  have hbqw := hbwvw.trans (hbq.mono hbwvw.size)
  have hPwq := hPwv.below hbq hPwv.lt
  have hOwq := hOwv.below hbq hOwv.lt
  have hRwq := hRwv.below hbq hRwv.lt
  have pwq0 : wq.cell? ⟨w.heap.size, 0, none⟩ = some (.int .i64 fn) := hPwq.cell 0
  have pwq1 : wq.cell? ⟨w.heap.size, 1, none⟩ = some (.int .i64 addr) := hPwq.cell 1
  have pwq2 : wq.cell? ⟨w.heap.size, 2, none⟩ = some (.int .i64 count) := hPwq.cell 2
  have pwq3 : wq.cell? ⟨w.heap.size, 3, none⟩ = some (.int .i64 to) := hPwq.cell 3
  have pwq4 : wq.cell? ⟨w.heap.size, 4, none⟩ = some (.slice A nb cb) := hPwq.cell 4
  have pwq5 : wq.cell? ⟨w.heap.size, 5, none⟩ = some (.slice R nr cr) := hPwq.cell 5
  have owq0 : wq.cell? ⟨w.heap.size + 1, 0, none⟩ = some (.int .i64 0) := hOwq.cell 0
  have owq1 : wq.cell? ⟨w.heap.size + 1, 1, none⟩ = some (.int .i64 0) := hOwq.cell 1
  have owq2 : wq.cell? ⟨w.heap.size + 1, 2, none⟩ = some (.slice none 0 0) := hOwq.cell 2
  have owq3 : wq.cell? ⟨w.heap.size + 1, 3, none⟩ = some (.slice none 0 0) := hOwq.cell 3
  have rwq0 : wq.cell? ⟨w.heap.size + 1 + 1, 0, none⟩ = some (.int .i64 fn) := hRwq.cell 0
  have rwq1 : wq.cell? ⟨w.heap.size + 1 + 1, 1, none⟩ = some (.int .i64 0) := hRwq.cell 1
  have rwq2 : wq.cell? ⟨w.heap.size + 1 + 1, 2, none⟩ = some (.slice none 0 0) := hRwq.cell 2
  have rwq3 : wq.cell? ⟨w.heap.size + 1 + 1, 3, none⟩ = some (.slice Au mu cu) := hRwq.cell 3
  have fowq := hOwq.frozen
  have frwq := hRwq.frozen
  have zPwq := hPwq.lt
  have zOwq := hOwq.lt
  have zRwq := hRwq.lt
  have hbwqw := hbqw
  cases han : answerP ⟨fn, addr, count, to, bs, regs⟩ (⟨fn, 0, [], fromP (b.drop 2)⟩ : RepP) with
  | none =>
    have hfz : readAnswerP ⟨fn, addr, count, to, bs, regs⟩ b = none := by rw [HF.out, han]; rfl
    have HZ := Lib.hid hfz
    have he : errV (none : Option (List Int)).isSome = 190 := rfl
    rw [he]
    clear han hfz he
    go_wp2_with fail
    obtain ⟨wz, hwz⟩ : ∃ W, ((((wq.setCell ⟨w.heap.size + 1, 0, none⟩ (.int .i64 0)).setCell ⟨w.heap.size + 1, 1, none⟩ (.int .i64 0)).setCell ⟨w.heap.size + 1, 2, none⟩ (.slice none 0 0)).setCell ⟨w.heap.size + 1, 3, none⟩ (.slice none 0 0)) = W := ⟨_, rfl⟩
    have hZ : Held wz (w.heap.size + 1) 68 #[.int .i64 0, .int .i64 0, .slice none 0 0, .slice none 0 0] := by rw [← hwz]; exact (((hOwq.set 0 _).set 1 _).set 2 _).set 3 _
    have hbz : Below w.heap.size w wz := by rw [← hwz]; exact ((((hbwqw.setCell (p := ⟨w.heap.size + 1, 0, none⟩) (by simp) _).setCell (p := ⟨w.heap.size + 1, 1, none⟩) (by simp) _).setCell (p := ⟨w.heap.size + 1, 2, none⟩) (by simp) _).setCell (p := ⟨w.heap.size + 1, 3, none⟩) (by simp) _)
    have hoff : OffB wq wz (w.heap.size + 1) := by rw [← hwz]; exact ((((OffB.refl _ _).set 0 _).set 1 _).set 2 _).set 3 _
    have z0 : wz.cell? ⟨w.heap.size + 1, 0, none⟩ = some (.int .i64 0) := hZ.cell 0
    have z1 : wz.cell? ⟨w.heap.size + 1, 1, none⟩ = some (.int .i64 0) := hZ.cell 1
    have z2 : wz.cell? ⟨w.heap.size + 1, 2, none⟩ = some (.slice none 0 0) := hZ.cell 2
    have z3 : wz.cell? ⟨w.heap.size + 1, 3, none⟩ = some (.slice none 0 0) := hZ.cell 3
    rw [hwz]
    exact bodyPost_ret (v := .tuple #[.agg #[.int .i64 0, .int .i64 0, .slice none 0 0, .slice none 0 0], .int .i64 190]) (by simp [results, Tryd.results30, go_sem, z0, z1, z2, z3]) rfl (ra_none (HZ.out) hbz)
  | some x =>
    have he : errV (some x : Option (List Int)).isSome = 0 := rfl
    rw [he]
    rw [han] at sq
    have hx8 : Byte8 x := (reply_read _ _ x hur hy han).2.2.2.1
    have HEQ := Lib.hid (equal_bytes Aq (some ⟨g, off, none⟩) nq cq n c x b wq sq (HB.out wq hbqw) hx8 hb8)
    by_cases hxb : x = b
    · have hfz : readAnswerP ⟨fn, addr, count, to, bs, regs⟩ b = some (⟨fn, 0, [], fromP (b.drop 2)⟩ : RepP) := by rw [HF.out, han, if_pos (by rw [hxb])]
      have HZ := Lib.hid hfz
      rw [decide_eq_true hxb] at HEQ
      clear han hfz he hxb sq hx8
      go_wp2_with (go_at_call 71; (with_reducible refine HEQ.out.mono ?_); rintro e w' ⟨rfl, rfl⟩)
      obtain ⟨wz, hwz⟩ : ∃ W, ((((wq.setCell ⟨w.heap.size + 1, 0, none⟩ (.int .i64 fn)).setCell ⟨w.heap.size + 1, 1, none⟩ (.int .i64 0)).setCell ⟨w.heap.size + 1, 2, none⟩ (.slice none 0 0)).setCell ⟨w.heap.size + 1, 3, none⟩ (.slice Au mu cu)) = W := ⟨_, rfl⟩
      have hZ : Held wz (w.heap.size + 1) 68 #[.int .i64 fn, .int .i64 0, .slice none 0 0, .slice Au mu cu] := by rw [← hwz]; exact (((hOwq.set 0 _).set 1 _).set 2 _).set 3 _
      have hbz : Below w.heap.size w wz := by rw [← hwz]; exact ((((hbwqw.setCell (p := ⟨w.heap.size + 1, 0, none⟩) (by simp) _).setCell (p := ⟨w.heap.size + 1, 1, none⟩) (by simp) _).setCell (p := ⟨w.heap.size + 1, 2, none⟩) (by simp) _).setCell (p := ⟨w.heap.size + 1, 3, none⟩) (by simp) _)
      have hoff : OffB wq wz (w.heap.size + 1) := by rw [← hwz]; exact ((((OffB.refl _ _).set 0 _).set 1 _).set 2 _).set 3 _
      have z0 : wz.cell? ⟨w.heap.size + 1, 0, none⟩ = some (.int .i64 fn) := hZ.cell 0
      have z1 : wz.cell? ⟨w.heap.size + 1, 1, none⟩ = some (.int .i64 0) := hZ.cell 1
      have z2 : wz.cell? ⟨w.heap.size + 1, 2, none⟩ = some (.slice none 0 0) := hZ.cell 2
      have z3 : wz.cell? ⟨w.heap.size + 1, 3, none⟩ = some (.slice Au mu cu) := hZ.cell 3
      rw [hwz]
      exact bodyPost_ret (v := .tuple #[.agg #[.int .i64 fn, .int .i64 0, .slice none 0 0, .slice Au mu cu], .int .i64 0]) (by simp [results, Tryd.results30, go_sem, z0, z1, z2, z3]) rfl (ra_some HZ.out ⟨none, 0, 0, Au, mu, cu, rfl, SlB.nil _ _, (sv.up hbq).off hoff hOwq (by intro v hv x e; subst e; simp at hv)⟩ hbz)
    · have hfz : readAnswerP ⟨fn, addr, count, to, bs, regs⟩ b = none := by rw [HF.out, han, if_neg (by simpa using hxb)]
      have HZ := Lib.hid hfz
      rw [decide_eq_false hxb] at HEQ
      clear han hfz he hxb sq hx8
      go_wp2_with (go_at_call 71; (with_reducible refine HEQ.out.mono ?_); rintro e w' ⟨rfl, rfl⟩)
      obtain ⟨wz, hwz⟩ : ∃ W, ((((wq.setCell ⟨w.heap.size + 1, 0, none⟩ (.int .i64 0)).setCell ⟨w.heap.size + 1, 1, none⟩ (.int .i64 0)).setCell ⟨w.heap.size + 1, 2, none⟩ (.slice none 0 0)).setCell ⟨w.heap.size + 1, 3, none⟩ (.slice none 0 0)) = W := ⟨_, rfl⟩
      have hZ : Held wz (w.heap.size + 1) 68 #[.int .i64 0, .int .i64 0, .slice none 0 0, .slice none 0 0] := by rw [← hwz]; exact (((hOwq.set 0 _).set 1 _).set 2 _).set 3 _
      have hbz : Below w.heap.size w wz := by rw [← hwz]; exact ((((hbwqw.setCell (p := ⟨w.heap.size + 1, 0, none⟩) (by simp) _).setCell (p := ⟨w.heap.size + 1, 1, none⟩) (by simp) _).setCell (p := ⟨w.heap.size + 1, 2, none⟩) (by simp) _).setCell (p := ⟨w.heap.size + 1, 3, none⟩) (by simp) _)
      have hoff : OffB wq wz (w.heap.size + 1) := by rw [← hwz]; exact ((((OffB.refl _ _).set 0 _).set 1 _).set 2 _).set 3 _
      have z0 : wz.cell? ⟨w.heap.size + 1, 0, none⟩ = some (.int .i64 0) := hZ.cell 0
      have z1 : wz.cell? ⟨w.heap.size + 1, 1, none⟩ = some (.int .i64 0) := hZ.cell 1
      have z2 : wz.cell? ⟨w.heap.size + 1, 2, none⟩ = some (.slice none 0 0) := hZ.cell 2
      have z3 : wz.cell? ⟨w.heap.size + 1, 3, none⟩ = some (.slice none 0 0) := hZ.cell 3
      rw [hwz]
      exact bodyPost_ret (v := .tuple #[.agg #[.int .i64 0, .int .i64 0, .slice none 0 0, .slice none 0 0], .int .i64 190]) (by simp [results, Tryd.results30, go_sem, z0, z1, z2, z3]) rfl (ra_none (HZ.out) hbz)
end Go.Proofs.YtcipleanckeoaaaDoor
namespace Go.Proofs.YtcipleanckeoaaaDoor
open Go.RowKit
set_option linter.unusedVariables false

end Go.Proofs.YtcipleanckeoaaaDoor
namespace Go.Proofs.YtcipleanckeoaaaDoor
open Go.RowKit

theorem readanswer_own (u : Value) (a : AskP) (B : Option Addr) (n c : Nat) (b : List Int) (w : World) (hT : LimT w) (hu : AskAt w u a) (hy : Reg16 a.regs) (hB : SlI w w.heap.size .u8 B n c b) (hb8 : Byte8 b) (hn : n ≤ 1000) (h34 : a.fn = 3 ∨ a.fn = 4) :
    Calls Tryd.prog 30 #[u, .slice B n c] w (RaPost w a b) := by
  obtain ⟨A, nb, cb, R, nr, cr, rfl, hA, hR⟩ := hu
  obtain ⟨fn, addr, count, to, bs, regs⟩ := a
  dsimp only at hA hR hy h34 ⊢
  by_cases hs : n < 2
  · exact ra_short fn addr count to bs regs A nb cb R nr cr B n c b w hT hA hR hy hB hb8 hn hs
  have hl := hB.1
  obtain ⟨g, off, rfl, _⟩ := hB.some_ (by omega)
  obtain ⟨x0, hx0⟩ : ∃ x, b[0]? = some x := ⟨_, List.getElem?_eq_getElem (by omega)⟩
  obtain ⟨x1, hx1⟩ : ∃ x, b[1]? = some x := ⟨_, List.getElem?_eq_getElem (by omega)⟩
  have g0 : b.getD 0 0 = x0 := by rw [List.getD, hx0]; rfl
  have g1 : b.getD 1 0 = x1 := by rw [List.getD, hx1]; rfl
  have hfin := own_fin ⟨fn, addr, count, to, bs, regs⟩ b (by omega)
  obtain ⟨q, hq⟩ : ∃ q, bits BinOp.or IntKind.i64 fn 128 = q := ⟨_, rfl⟩
  simp only at hfin
  rw [hq] at hfin
  by_cases h1 : x0 = q
  · have e : ownR q (unpackV (b.drop 2) count) ⟨fn, addr, count, to, bs, regs⟩ b = ⟨fn, x1, [], []⟩ := by
      unfold ownR
      rw [if_pos (by rw [g0]; exact h1), g1]
    rw [e] at hfin
    exact ra1 fn addr count to bs regs A nb cb R nr cr g off n c b w (Lib.hid h34) hT hA hR hy hB hb8 hn (by omega) x0 hx0 q hq x1 hx1 hfin h1
  by_cases h2 : fn ≤ 2
  · have e : ownR q (unpackV (b.drop 2) count) ⟨fn, addr, count, to, bs, regs⟩ b = ⟨fn, 0, unpackV (b.drop 2) count, []⟩ := by
      unfold ownR
      rw [if_neg (by rw [g0]; exact h1), if_pos h2]
    rw [e] at hfin
    exfalso; omega
  have hf : (if b.length % 2 = 0 then wordsP (b.drop 2) else []) = fromP (b.drop 2) := by
    unfold fromP
    rw [List.length_drop]
    by_cases he : b.length % 2 = 0
    · rw [if_pos he, if_pos (by omega)]
    · rw [if_neg he, if_neg (by omega)]
  by_cases h3 : fn ≤ 4 ∨ fn = 23
  · have e : ownR q (unpackV (b.drop 2) count) ⟨fn, addr, count, to, bs, regs⟩ b = ⟨fn, 0, [], fromP (b.drop 2)⟩ := by
      unfold ownR
      rw [if_neg (by rw [g0]; exact h1), if_neg h2, if_pos h3, hf]
    rw [e] at hfin
    have hc := hB.2.1
    by_cases h4 : fn ≤ 4
    · by_cases hz : c = 2
      · exact ra3z fn addr count to bs regs A nb cb R nr cr g off n c b w (Lib.hid h34) hT hA hR hy hB hb8 hn (by omega) x0 hx0 q hq hfin h1 (by omega) h4 hz
      · exact ra3r fn addr count to bs regs A nb cb R nr cr g off n c b w (Lib.hid h34) hT hA hR hy hB hb8 hn (by omega) x0 hx0 q hq hfin h1 (by omega) h4 (by omega)
    · have h23 : fn = 23 := by omega
      by_cases hz : c = 2
      · exfalso; omega
      · exfalso; omega
  · have e : ownR q (unpackV (b.drop 2) count) ⟨fn, addr, count, to, bs, regs⟩ b = ⟨fn, 0, [], []⟩ := by
      unfold ownR
      rw [if_neg (by rw [g0]; exact h1), if_neg h2, if_neg h3]
    rw [e] at hfin
    exfalso; omega
end Go.Proofs.YtcipleanckeoaaaDoor
