/- pdu.Bytes: what the functions share. -/
import Derived.Test.YtcipleanckeoaaaDoorPduCheck
import Derived.Test.YtcipleanckeoaaaDoorPduBase
namespace Go.Proofs.YtcipleanckeoaaaDoor
open Go.RowKit
set_option linter.unusedVariables false

/-- A request's bytes, or none. -/
def askL (p : AskP) : List Int := if mayP p then bytesP p else []
/-- What Bytes answers. -/
def BytesPost (w : World) (p : AskP) (e : Ending) (w' : World) : Prop := ∃ A n c, e = .returned (.tuple #[.slice A n c, .int .i64 (errV (mayP p))]) ∧ SlI w' w'.heap.size .u8 A n c (askL p) ∧ Below w.heap.size w w'
theorem bytes_post {w w' : World} {p : AskP} {base n : Nat} {v : Value} {xs : List Int} (hm : mayP p = true) (hx : xs = bytesP p) (ho : w'.ownsRow base 5 1 v n (xs.map (Value.int .u8))) (hb : Below w.heap.size w w') : BytesPost w p (.returned (.tuple #[v, .int .i64 0])) w' := by
  obtain ⟨A, c, rfl, hs⟩ := SlI.of_own ho
  refine ⟨A, n, c, by rw [hm]; rfl, ?_, hb⟩
  unfold askL
  rw [if_pos hm, ← hx]
  exact hs
theorem lit_own (base : Nat) (w : World) (x : Int) (h : base ≤ w.heap.size) : (w.alloc (.cells #[.int .u8 x] 5)).ownsRow base 5 1 (.slice (some ⟨w.heap.size, 0, none⟩) 1 1) 1 ([x].map (Value.int .u8)) := World.ownsRow_lit w #[.int .u8 x] 1 h (by unfold maxLen; omega) rfl
/-- put([]byte{x}, y). -/
theorem put_first (base : Nat) (x y : Int) (hy : 0 ≤ y ∧ y < 65536) (w : World) (h : base ≤ w.heap.size) :
    Calls Tryd.prog 62 #[.slice (some ⟨w.heap.size, 0, none⟩) 1 1, .slice (some ⟨w.heap.size + 1, 0, none⟩) 1 1] ((w.alloc (.cells #[.int .u8 x] 5)).alloc (.cells #[.int .i64 y] 3)) fun e w' => ∃ v, e = .returned v ∧ w'.ownsRow base 5 1 v 3 ((x :: twoI y).map (Value.int .u8)) ∧ Below base w w' := by
  have hs : SlI ((w.alloc (.cells #[.int .u8 x] 5)).alloc (.cells #[.int .i64 y] 3)) ((w.alloc (.cells #[.int .u8 x] 5)).alloc (.cells #[.int .i64 y] 3)).heap.size .i64 (some ⟨w.heap.size + 1, 0, none⟩) 1 1 [y] := SlI.lit_at (by simp) rfl rfl (by omega)
  refine (put_own base _ 1 [x] (some ⟨w.heap.size + 1, 0, none⟩) 1 1 [y] (by omega) _ (by simp; omega) ((lit_own base w x h).alloc _) hs (fun z hz => by simp at hz; omega) (fun g hg a ha => ?_)).mono ?_
  · simp [Value.ownBlock] at hg
    injection ha with ha
    rw [← ha, ← hg]
    simp
  · rintro e w' ⟨v, rfl, ho, hb⟩
    exact ⟨v, rfl, by simpa [twosI] using ho, (((Below.refl _ w).alloc h _).alloc (by simp; omega) _).trans hb⟩
/-- put(out, y). -/
theorem put_one (base : Nat) (v : Value) (n : Nat) (xs : List Int) (y : Int) (hy : 0 ≤ y ∧ y < 65536) (hn : n ≤ 1000) (w : World) (h : base ≤ w.heap.size) (ho : w.ownsRow base 5 1 v n (xs.map (Value.int .u8))) :
    Calls Tryd.prog 62 #[v, .slice (some ⟨w.heap.size, 0, none⟩) 1 1] (w.alloc (.cells #[.int .i64 y] 3)) fun e w' => ∃ v', e = .returned v' ∧ w'.ownsRow base 5 1 v' (n + 2) ((xs ++ twoI y).map (Value.int .u8)) ∧ Below base w w' := by
  have hs : SlI (w.alloc (.cells #[.int .i64 y] 3)) (w.alloc (.cells #[.int .i64 y] 3)).heap.size .i64 (some ⟨w.heap.size, 0, none⟩) 1 1 [y] := SlI.of_lit rfl rfl (by omega)
  refine (put_own base _ n xs (some ⟨w.heap.size, 0, none⟩) 1 1 [y] (by omega) _ (by simp; omega) (ho.alloc _) hs (fun z hz => by simp at hz; omega) (fun g hg a ha => ?_)).mono ?_
  · injection ha with ha
    rw [← ha]
    have := (ho.lt g hg).2
    show w.heap.size ≠ g
    omega
  · rintro e w' ⟨v, rfl, ho, hb⟩
    exact ⟨v, rfl, by simpa [twosI] using ho, ((Below.refl _ w).alloc h _).trans hb⟩
/-- put(out, y, z). -/
theorem put_two (base : Nat) (v : Value) (n : Nat) (xs : List Int) (y z : Int) (hy : 0 ≤ y ∧ y < 65536) (hz : 0 ≤ z ∧ z < 65536) (hn : n ≤ 1000) (w : World) (h : base ≤ w.heap.size) (ho : w.ownsRow base 5 1 v n (xs.map (Value.int .u8))) :
    Calls Tryd.prog 62 #[v, .slice (some ⟨w.heap.size, 0, none⟩) 2 2] (w.alloc (.cells #[.int .i64 y, .int .i64 z] 3)) fun e w' => ∃ v', e = .returned v' ∧ w'.ownsRow base 5 1 v' (n + 4) ((xs ++ twoI y ++ twoI z).map (Value.int .u8)) ∧ Below base w w' := by
  have hs : SlI (w.alloc (.cells #[.int .i64 y, .int .i64 z] 3)) (w.alloc (.cells #[.int .i64 y, .int .i64 z] 3)).heap.size .i64 (some ⟨w.heap.size, 0, none⟩) 2 2 [y, z] := SlI.of_lit rfl rfl (by omega)
  refine (put_own base _ n xs (some ⟨w.heap.size, 0, none⟩) 2 2 [y, z] (by omega) _ (by simp; omega) (ho.alloc _) hs (fun u hu => by simp at hu; omega) (fun g hg a ha => ?_)).mono ?_
  · injection ha with ha
    rw [← ha]
    have := (ho.lt g hg).2
    show w.heap.size ≠ g
    omega
  · rintro e w' ⟨v, rfl, ho, hb⟩
    exact ⟨v, rfl, by simpa [twosI, List.append_assoc] using ho, ((Below.refl _ w).alloc h _).trans hb⟩
theorem reg_of {ys : List Int} (h : Reg16 ys) : ∃ zs : List Reg, zs.map (·.1) = ys ∧ bytesOf zs = twosI ys := by
  induction ys with
  | nil => exact ⟨[], rfl, rfl⟩
  | cons a t ih =>
    obtain ⟨zs, h1, h2⟩ := ih fun x hx => h x (by simp [hx])
    refine ⟨⟨a, h a (by simp)⟩ :: zs, by simp [h1], ?_⟩
    rw [twosI_cons, ← h2]
    simp [bytesOf]
/-- regs.Bytes. -/
theorem rbytes_any (R : Option Addr) (nr cr : Nat) (ys : List Int) (hn : nr ≤ 100000) (hy : Reg16 ys) (w : World) (hR : SlI w w.heap.size .u16 R nr cr ys) :
    Calls Tryd.prog 65 #[.slice R nr cr] w fun e w' => ∃ v, e = .returned v ∧ w'.ownsRow w.heap.size 5 1 v (2 * nr) ((twosI ys).map (Value.int .u8)) ∧ Below w.heap.size w w' := by
  obtain ⟨zs, h1, h2⟩ := reg_of hy
  have hl : zs.length = nr := by rw [← hR.1, ← h1, List.length_map]
  refine (bytes_any R nr cr zs (by omega) hl w (by rw [h1]; exact hR.2.2.2.2)).mono ?_
  rintro e w' ⟨v, rfl, ho, hb⟩
  rw [bytesOf_len, hl, h2] at ho
  exact ⟨v, rfl, ho, hb⟩
end Go.Proofs.YtcipleanckeoaaaDoor
namespace Go.Proofs.YtcipleanckeoaaaDoor
open Go.RowKit
set_option linter.unusedVariables false

set_option maxRecDepth 100000 in
set_option maxHeartbeats 2000000 in
theorem bytes_no (fn addr count to : Int) (bits : List Bool) (regs : List Int) (A : Option Addr) (nb cb : Nat) (R : Option Addr) (nr cr : Nat) (w : World) (hT : LimT w) (hA : SlB w w.heap.size A nb cb bits) (hR : SlI w w.heap.size .u16 R nr cr regs) (hm : mayP ⟨fn, addr, count, to, bits, regs⟩ = false) : Calls Tryd.prog 27 #[.agg #[.int .i64 fn, .int .i64 addr, .int .i64 count, .int .i64 to, .slice A nb cb, .slice R nr cr]] w (BytesPost w ⟨fn, addr, count, to, bits, regs⟩) := by
  obtain ⟨w1, hw1⟩ : ∃ w1, w.alloc (.cells #[.int .i64 fn, .int .i64 addr, .int .i64 count, .int .i64 to, .slice A nb cb, .slice R nr cr] 59) = w1 := ⟨_, rfl⟩
  have hb1 : Below w.heap.size w w1 := by rw [← hw1]; exact (Below.refl _ w).alloc (Nat.le_refl _) _
  have hz1 : w1.heap.size = w.heap.size + 1 := by rw [← hw1]; simp
  have hP1 : Held w1 w.heap.size 59 #[.int .i64 fn, .int .i64 addr, .int .i64 count, .int .i64 to, .slice A nb cb, .slice R nr cr] := by rw [← hw1]; exact Held.new _ _ _
  have hu := Tryd.underlying59
  have hsz : (Tryd.prog.info? 59).map (·.size) = some 6 := by kernel_rfl
  have hc := check_own (.agg #[.int .i64 fn, .int .i64 addr, .int .i64 count, .int .i64 to, .slice A nb cb, .slice R nr cr]) ⟨fn, addr, count, to, bits, regs⟩ w1 (hT.up hb1) ⟨A, nb, cb, R, nr, cr, rfl, hA.up hb1, hR.up hb1⟩
  rw [hm] at hc
  have HC := Lib.hid hc
  have he : errV false = 190 := rfl
  clear hT hc
  have HM := Lib.hid hm
  clear hA hR hm
  go_in
  go_wp2_with ((with_reducible refine at_loadT 59 1 ?_); refine wpList_load_rowG rfl 59 (.tmp 1) rfl w.heap.size rfl 59 _ _ hP1 hu rfl hsz ?_)
  refine HC.out.mono ?_
  rintro e w2 ⟨rfl, hb2⟩
  go_wp2_with fail
  go_ret2
  refine ⟨none, 0, 0, by rw [HM.out]; rfl, ?_, hb1.trans (hb2.mono (by omega))⟩
  unfold askL
  rw [if_neg (by rw [HM.out]; decide)]
  exact SlI.nil _ _ _
end Go.Proofs.YtcipleanckeoaaaDoor
namespace Go.Proofs.YtcipleanckeoaaaDoor
open Go.RowKit
set_option linter.unusedVariables false

set_option maxRecDepth 100000 in
set_option maxHeartbeats 2000000 in
theorem bytes_rd (fn addr count to : Int) (bits : List Bool) (regs : List Int) (A : Option Addr) (nb cb : Nat) (R : Option Addr) (nr cr : Nat) (w : World) (hT : LimT w) (hA : SlB w w.heap.size A nb cb bits) (hR : SlI w w.heap.size .u16 R nr cr regs) (hm : mayP ⟨fn, addr, count, to, bits, regs⟩ = true) (hy : Reg16 regs) (ha : 0 ≤ addr ∧ addr < 65536) (hfn : fn = 1 ∨ fn = 2 ∨ fn = 3 ∨ fn = 4) (hcnt : 0 ≤ count ∧ count < 65536) : Calls Tryd.prog 27 #[.agg #[.int .i64 fn, .int .i64 addr, .int .i64 count, .int .i64 to, .slice A nb cb, .slice R nr cr]] w (BytesPost w ⟨fn, addr, count, to, bits, regs⟩) := by
  obtain ⟨w1, hw1⟩ : ∃ w1, w.alloc (.cells #[.int .i64 fn, .int .i64 addr, .int .i64 count, .int .i64 to, .slice A nb cb, .slice R nr cr] 59) = w1 := ⟨_, rfl⟩
  have hb1 : Below w.heap.size w w1 := by rw [← hw1]; exact (Below.refl _ w).alloc (Nat.le_refl _) _
  have hz1 : w1.heap.size = w.heap.size + 1 := by rw [← hw1]; simp
  have hP1 : Held w1 w.heap.size 59 #[.int .i64 fn, .int .i64 addr, .int .i64 count, .int .i64 to, .slice A nb cb, .slice R nr cr] := by rw [← hw1]; exact Held.new _ _ _
  have hu := Tryd.underlying59
  have hsz : (Tryd.prog.info? 59).map (·.size) = some 6 := by kernel_rfl
  have hc := check_own (.agg #[.int .i64 fn, .int .i64 addr, .int .i64 count, .int .i64 to, .slice A nb cb, .slice R nr cr]) ⟨fn, addr, count, to, bits, regs⟩ w1 (hT.up hb1) ⟨A, nb, cb, R, nr, cr, rfl, hA.up hb1, hR.up hb1⟩
  rw [hm] at hc
  have HC := Lib.hid hc
  have he : errV true = 0 := rfl
  clear hT hc
  have HM := Lib.hid hm
  have HA := Lib.hid (fun (X : World) (h : Below w.heap.size w X) => hA.up h)
  have HR := Lib.hid (fun (X : World) (h : Below w.heap.size w X) => hR.up h)
  have HLB := Lib.hid hA.1
  have HLR := Lib.hid hR.1
  clear hA hR hm
  have e1 : (fn == 5) = false := by simp; omega
  have e2 : (fn == 6) = false := by simp; omega
  have e3 : (fn == 15) = false := by simp; omega
  have e4 : (fn == 23) = false := by simp; omega
  have e5 : (fn == 16) = false := by simp; omega
  have HF := Lib.hid hfn
  have f0 : 0 ≤ fn := by omega
  have f1 : fn < 256 := by omega
  clear hfn
  go_in
  go_wp2_with ((with_reducible refine at_loadT 59 1 ?_); refine wpList_load_rowG rfl 59 (.tmp 1) rfl w.heap.size rfl 59 _ _ hP1 hu rfl hsz ?_)
  refine HC.out.mono ?_
  rintro e w2 ⟨rfl, hb2⟩
  have hz2 := hb2.size
  have hP2 := hP1.below hb2 hP1.lt
  have hlt2 := hP2.lt
  have cw20 : w2.cell? ⟨w.heap.size, 0, none⟩ = some (.int .i64 fn) := hP2.cell 0
  have cw21 : w2.cell? ⟨w.heap.size, 1, none⟩ = some (.int .i64 addr) := hP2.cell 1
  have HPF := Lib.hid (put_first w1.heap.size fn addr ha w2 hz2)
  have hf1 : fn % 256 = fn := by omega
  go_wp2_with fail
  refine HPF.out.mono ?_
  rintro e w3 ⟨v3, rfl, o3, hb3⟩
  have hb23 := hb2.trans hb3
  have hz3 := hb23.size
  have hP3 := hP1.below hb23 hP1.lt
  have hlt3 := hP3.lt
  have hb3w := hb1.trans (hb23.mono (by omega))
  have cw30 : w3.cell? ⟨w.heap.size, 0, none⟩ = some (.int .i64 fn) := hP3.cell 0
  have cw31 : w3.cell? ⟨w.heap.size, 1, none⟩ = some (.int .i64 addr) := hP3.cell 1
  have cw32 : w3.cell? ⟨w.heap.size, 2, none⟩ = some (.int .i64 count) := hP3.cell 2
  have cw33 : w3.cell? ⟨w.heap.size, 3, none⟩ = some (.int .i64 to) := hP3.cell 3
  have cw34 : w3.cell? ⟨w.heap.size, 4, none⟩ = some (.slice A nb cb) := hP3.cell 4
  have cw35 : w3.cell? ⟨w.heap.size, 5, none⟩ = some (.slice R nr cr) := hP3.cell 5
  clear cw20 cw21 hP2 hP1
  have HPO := Lib.hid (put_one w1.heap.size v3 3 _ count hcnt (by omega) w3 (by omega) o3)
  go_wp2_with fail
  refine HPO.out.mono ?_
  rintro e w4 ⟨v4, rfl, o4, hb4⟩
  have hb24 := hb23.trans hb4
  go_wp2_with fail
  go_ret2
  exact bytes_post HM.out (by unfold bytesP; have := HF.out; simp only; rw [if_neg (by omega), if_neg (by omega), if_neg (by omega), if_neg (by omega), if_neg (by omega)]) o4 (hb1.trans (hb24.mono (by omega)))
set_option maxRecDepth 100000 in
set_option maxHeartbeats 2000000 in
theorem bytes_5 (fn addr count to : Int) (bits : List Bool) (regs : List Int) (A : Option Addr) (nb cb : Nat) (R : Option Addr) (nr cr : Nat) (w : World) (hT : LimT w) (hA : SlB w w.heap.size A nb cb bits) (hR : SlI w w.heap.size .u16 R nr cr regs) (hm : mayP ⟨fn, addr, count, to, bits, regs⟩ = true) (hy : Reg16 regs) (ha : 0 ≤ addr ∧ addr < 65536) (hfn : fn = 5) (b : Bool) (hbits : bits = [b]) : Calls Tryd.prog 27 #[.agg #[.int .i64 fn, .int .i64 addr, .int .i64 count, .int .i64 to, .slice A nb cb, .slice R nr cr]] w (BytesPost w ⟨fn, addr, count, to, bits, regs⟩) := by
  obtain ⟨w1, hw1⟩ : ∃ w1, w.alloc (.cells #[.int .i64 fn, .int .i64 addr, .int .i64 count, .int .i64 to, .slice A nb cb, .slice R nr cr] 59) = w1 := ⟨_, rfl⟩
  have hb1 : Below w.heap.size w w1 := by rw [← hw1]; exact (Below.refl _ w).alloc (Nat.le_refl _) _
  have hz1 : w1.heap.size = w.heap.size + 1 := by rw [← hw1]; simp
  have hP1 : Held w1 w.heap.size 59 #[.int .i64 fn, .int .i64 addr, .int .i64 count, .int .i64 to, .slice A nb cb, .slice R nr cr] := by rw [← hw1]; exact Held.new _ _ _
  have hu := Tryd.underlying59
  have hsz : (Tryd.prog.info? 59).map (·.size) = some 6 := by kernel_rfl
  have hc := check_own (.agg #[.int .i64 fn, .int .i64 addr, .int .i64 count, .int .i64 to, .slice A nb cb, .slice R nr cr]) ⟨fn, addr, count, to, bits, regs⟩ w1 (hT.up hb1) ⟨A, nb, cb, R, nr, cr, rfl, hA.up hb1, hR.up hb1⟩
  rw [hm] at hc
  have HC := Lib.hid hc
  have he : errV true = 0 := rfl
  clear hT hc
  have HM := Lib.hid hm
  have HA := Lib.hid (fun (X : World) (h : Below w.heap.size w X) => hA.up h)
  have HR := Lib.hid (fun (X : World) (h : Below w.heap.size w X) => hR.up h)
  have HLB := Lib.hid hA.1
  have HLR := Lib.hid hR.1
  clear hA hR hm
  subst hfn hbits
  obtain rfl : nb = 1 := HLB.out.symm
  go_in
  go_wp2_with ((with_reducible refine at_loadT 59 1 ?_); refine wpList_load_rowG rfl 59 (.tmp 1) rfl w.heap.size rfl 59 _ _ hP1 hu rfl hsz ?_)
  refine HC.out.mono ?_
  rintro e w2 ⟨rfl, hb2⟩
  have hz2 := hb2.size
  have hP2 := hP1.below hb2 hP1.lt
  have hlt2 := hP2.lt
  have cw20 : w2.cell? ⟨w.heap.size, 0, none⟩ = some (.int .i64 5) := hP2.cell 0
  have cw21 : w2.cell? ⟨w.heap.size, 1, none⟩ = some (.int .i64 addr) := hP2.cell 1
  have HPF := Lib.hid (put_first w1.heap.size 5 addr ha w2 hz2)
  have hf1 : True := by trivial
  go_wp2_with fail
  refine HPF.out.mono ?_
  rintro e w3 ⟨v3, rfl, o3, hb3⟩
  have hb23 := hb2.trans hb3
  have hz3 := hb23.size
  have hP3 := hP1.below hb23 hP1.lt
  have hlt3 := hP3.lt
  have hb3w := hb1.trans (hb23.mono (by omega))
  have cw30 : w3.cell? ⟨w.heap.size, 0, none⟩ = some (.int .i64 5) := hP3.cell 0
  have cw31 : w3.cell? ⟨w.heap.size, 1, none⟩ = some (.int .i64 addr) := hP3.cell 1
  have cw32 : w3.cell? ⟨w.heap.size, 2, none⟩ = some (.int .i64 count) := hP3.cell 2
  have cw33 : w3.cell? ⟨w.heap.size, 3, none⟩ = some (.int .i64 to) := hP3.cell 3
  have cw34 : w3.cell? ⟨w.heap.size, 4, none⟩ = some (.slice A 1 cb) := hP3.cell 4
  have cw35 : w3.cell? ⟨w.heap.size, 5, none⟩ = some (.slice R nr cr) := hP3.cell 5
  clear cw20 cw21 hP2 hP1
  obtain ⟨g, off, x, rfl, hg, hx, hcb⟩ := (HA.out w3 hb3w).2.2.2.2.at_ (i := 0) (by simp)
  obtain rfl : b = x := by simpa using hx
  rw [Nat.add_zero] at hcb
  clear hx
  cases b with
  | true =>
    have HPO := Lib.hid (put_one w1.heap.size v3 3 _ 65280 (by omega) (by omega) w3 (by omega) o3)
    go_wp2_with fail
    refine HPO.out.mono ?_
    rintro e w4 ⟨v4, rfl, o4, hb4⟩
    have hb24 := hb23.trans hb4
    go_wp2_with fail
    go_ret2
    exact bytes_post HM.out (by rfl) o4 (hb1.trans (hb24.mono (by omega)))
  | false =>
    have HPO := Lib.hid (put_one w1.heap.size v3 3 _ 0 (by omega) (by omega) w3 (by omega) o3)
    go_wp2_with fail
    refine HPO.out.mono ?_
    rintro e w4 ⟨v4, rfl, o4, hb4⟩
    have hb24 := hb23.trans hb4
    go_wp2_with fail
    go_ret2
    exact bytes_post HM.out (by rfl) o4 (hb1.trans (hb24.mono (by omega)))
set_option maxRecDepth 100000 in
set_option maxHeartbeats 2000000 in
theorem bytes_6 (fn addr count to : Int) (bits : List Bool) (regs : List Int) (A : Option Addr) (nb cb : Nat) (R : Option Addr) (nr cr : Nat) (w : World) (hT : LimT w) (hA : SlB w w.heap.size A nb cb bits) (hR : SlI w w.heap.size .u16 R nr cr regs) (hm : mayP ⟨fn, addr, count, to, bits, regs⟩ = true) (hy : Reg16 regs) (ha : 0 ≤ addr ∧ addr < 65536) (hfn : fn = 6) (r : Int) (hregs : regs = [r]) : Calls Tryd.prog 27 #[.agg #[.int .i64 fn, .int .i64 addr, .int .i64 count, .int .i64 to, .slice A nb cb, .slice R nr cr]] w (BytesPost w ⟨fn, addr, count, to, bits, regs⟩) := by
  obtain ⟨w1, hw1⟩ : ∃ w1, w.alloc (.cells #[.int .i64 fn, .int .i64 addr, .int .i64 count, .int .i64 to, .slice A nb cb, .slice R nr cr] 59) = w1 := ⟨_, rfl⟩
  have hb1 : Below w.heap.size w w1 := by rw [← hw1]; exact (Below.refl _ w).alloc (Nat.le_refl _) _
  have hz1 : w1.heap.size = w.heap.size + 1 := by rw [← hw1]; simp
  have hP1 : Held w1 w.heap.size 59 #[.int .i64 fn, .int .i64 addr, .int .i64 count, .int .i64 to, .slice A nb cb, .slice R nr cr] := by rw [← hw1]; exact Held.new _ _ _
  have hu := Tryd.underlying59
  have hsz : (Tryd.prog.info? 59).map (·.size) = some 6 := by kernel_rfl
  have hc := check_own (.agg #[.int .i64 fn, .int .i64 addr, .int .i64 count, .int .i64 to, .slice A nb cb, .slice R nr cr]) ⟨fn, addr, count, to, bits, regs⟩ w1 (hT.up hb1) ⟨A, nb, cb, R, nr, cr, rfl, hA.up hb1, hR.up hb1⟩
  rw [hm] at hc
  have HC := Lib.hid hc
  have he : errV true = 0 := rfl
  clear hT hc
  have HM := Lib.hid hm
  have HA := Lib.hid (fun (X : World) (h : Below w.heap.size w X) => hA.up h)
  have HR := Lib.hid (fun (X : World) (h : Below w.heap.size w X) => hR.up h)
  have HLB := Lib.hid hA.1
  have HLR := Lib.hid hR.1
  clear hA hR hm
  subst hfn hregs
  obtain rfl : nr = 1 := HLR.out.symm
  have hr := hy r (by simp)
  go_in
  go_wp2_with ((with_reducible refine at_loadT 59 1 ?_); refine wpList_load_rowG rfl 59 (.tmp 1) rfl w.heap.size rfl 59 _ _ hP1 hu rfl hsz ?_)
  refine HC.out.mono ?_
  rintro e w2 ⟨rfl, hb2⟩
  have hz2 := hb2.size
  have hP2 := hP1.below hb2 hP1.lt
  have hlt2 := hP2.lt
  have cw20 : w2.cell? ⟨w.heap.size, 0, none⟩ = some (.int .i64 6) := hP2.cell 0
  have cw21 : w2.cell? ⟨w.heap.size, 1, none⟩ = some (.int .i64 addr) := hP2.cell 1
  have HPF := Lib.hid (put_first w1.heap.size 6 addr ha w2 hz2)
  have hf1 : True := by trivial
  go_wp2_with fail
  refine HPF.out.mono ?_
  rintro e w3 ⟨v3, rfl, o3, hb3⟩
  have hb23 := hb2.trans hb3
  have hz3 := hb23.size
  have hP3 := hP1.below hb23 hP1.lt
  have hlt3 := hP3.lt
  have hb3w := hb1.trans (hb23.mono (by omega))
  have cw30 : w3.cell? ⟨w.heap.size, 0, none⟩ = some (.int .i64 6) := hP3.cell 0
  have cw31 : w3.cell? ⟨w.heap.size, 1, none⟩ = some (.int .i64 addr) := hP3.cell 1
  have cw32 : w3.cell? ⟨w.heap.size, 2, none⟩ = some (.int .i64 count) := hP3.cell 2
  have cw33 : w3.cell? ⟨w.heap.size, 3, none⟩ = some (.int .i64 to) := hP3.cell 3
  have cw34 : w3.cell? ⟨w.heap.size, 4, none⟩ = some (.slice A nb cb) := hP3.cell 4
  have cw35 : w3.cell? ⟨w.heap.size, 5, none⟩ = some (.slice R 1 cr) := hP3.cell 5
  clear cw20 cw21 hP2 hP1
  obtain ⟨g, off, x, rfl, hg, hx, hcb⟩ := (HR.out w3 hb3w).2.2.2.2.at_ (i := 0) (by simp)
  obtain rfl : r = x := by simpa using hx
  rw [Nat.add_zero] at hcb
  obtain ⟨r0, r1⟩ := id hr
  clear hx
  have HPO := Lib.hid (put_one w1.heap.size v3 3 _ r hr (by omega) w3 (by omega) o3)
  go_wp2_with fail
  refine HPO.out.mono ?_
  rintro e w4 ⟨v4, rfl, o4, hb4⟩
  have hb24 := hb23.trans hb4
  go_wp2_with fail
  go_ret2
  exact bytes_post HM.out (by rfl) o4 (hb1.trans (hb24.mono (by omega)))
end Go.Proofs.YtcipleanckeoaaaDoor
namespace Go.Proofs.YtcipleanckeoaaaDoor
open Go.RowKit
set_option linter.unusedVariables false

set_option maxRecDepth 100000 in
set_option maxHeartbeats 2000000 in
theorem bytes_15 (fn addr count to : Int) (bits : List Bool) (regs : List Int) (A : Option Addr) (nb cb : Nat) (R : Option Addr) (nr cr : Nat) (w : World) (hT : LimT w) (hA : SlB w w.heap.size A nb cb bits) (hR : SlI w w.heap.size .u16 R nr cr regs) (hm : mayP ⟨fn, addr, count, to, bits, regs⟩ = true) (hy : Reg16 regs) (ha : 0 ≤ addr ∧ addr < 65536) (hfn : fn = 15) (hnb : nb ≤ 1968) : Calls Tryd.prog 27 #[.agg #[.int .i64 fn, .int .i64 addr, .int .i64 count, .int .i64 to, .slice A nb cb, .slice R nr cr]] w (BytesPost w ⟨fn, addr, count, to, bits, regs⟩) := by
  obtain ⟨w1, hw1⟩ : ∃ w1, w.alloc (.cells #[.int .i64 fn, .int .i64 addr, .int .i64 count, .int .i64 to, .slice A nb cb, .slice R nr cr] 59) = w1 := ⟨_, rfl⟩
  have hb1 : Below w.heap.size w w1 := by rw [← hw1]; exact (Below.refl _ w).alloc (Nat.le_refl _) _
  have hz1 : w1.heap.size = w.heap.size + 1 := by rw [← hw1]; simp
  have hP1 : Held w1 w.heap.size 59 #[.int .i64 fn, .int .i64 addr, .int .i64 count, .int .i64 to, .slice A nb cb, .slice R nr cr] := by rw [← hw1]; exact Held.new _ _ _
  have hu := Tryd.underlying59
  have hsz : (Tryd.prog.info? 59).map (·.size) = some 6 := by kernel_rfl
  have hc := check_own (.agg #[.int .i64 fn, .int .i64 addr, .int .i64 count, .int .i64 to, .slice A nb cb, .slice R nr cr]) ⟨fn, addr, count, to, bits, regs⟩ w1 (hT.up hb1) ⟨A, nb, cb, R, nr, cr, rfl, hA.up hb1, hR.up hb1⟩
  rw [hm] at hc
  have HC := Lib.hid hc
  have he : errV true = 0 := rfl
  clear hT hc
  have HM := Lib.hid hm
  have HA := Lib.hid (fun (X : World) (h : Below w.heap.size w X) => hA.up h)
  have HR := Lib.hid (fun (X : World) (h : Below w.heap.size w X) => hR.up h)
  have HLB := Lib.hid hA.1
  have HLR := Lib.hid hR.1
  clear hA hR hm
  subst hfn
  have HPL := Lib.hid (packN_len bits)
  have hpl : (packN bits).length ≤ 247 := by rw [packN_len, HLB.out]; omega
  go_in
  go_wp2_with ((with_reducible refine at_loadT 59 1 ?_); refine wpList_load_rowG rfl 59 (.tmp 1) rfl w.heap.size rfl 59 _ _ hP1 hu rfl hsz ?_)
  refine HC.out.mono ?_
  rintro e w2 ⟨rfl, hb2⟩
  have hz2 := hb2.size
  have hP2 := hP1.below hb2 hP1.lt
  have hlt2 := hP2.lt
  have cw20 : w2.cell? ⟨w.heap.size, 0, none⟩ = some (.int .i64 15) := hP2.cell 0
  have cw21 : w2.cell? ⟨w.heap.size, 1, none⟩ = some (.int .i64 addr) := hP2.cell 1
  have HPF := Lib.hid (put_first w1.heap.size 15 addr ha w2 hz2)
  have hf1 : True := by trivial
  go_wp2_with fail
  refine HPF.out.mono ?_
  rintro e w3 ⟨v3, rfl, o3, hb3⟩
  have hb23 := hb2.trans hb3
  have hz3 := hb23.size
  have hP3 := hP1.below hb23 hP1.lt
  have hlt3 := hP3.lt
  have hb3w := hb1.trans (hb23.mono (by omega))
  have cw30 : w3.cell? ⟨w.heap.size, 0, none⟩ = some (.int .i64 15) := hP3.cell 0
  have cw31 : w3.cell? ⟨w.heap.size, 1, none⟩ = some (.int .i64 addr) := hP3.cell 1
  have cw32 : w3.cell? ⟨w.heap.size, 2, none⟩ = some (.int .i64 count) := hP3.cell 2
  have cw33 : w3.cell? ⟨w.heap.size, 3, none⟩ = some (.int .i64 to) := hP3.cell 3
  have cw34 : w3.cell? ⟨w.heap.size, 4, none⟩ = some (.slice A nb cb) := hP3.cell 4
  have cw35 : w3.cell? ⟨w.heap.size, 5, none⟩ = some (.slice R nr cr) := hP3.cell 5
  clear cw20 cw21 hP2 hP1
  have hb2x := hb23
  have hPx := hP3
  have ox := o3
  have hzx := hz3
  go_wp2_with fail
  clear cw30 cw31 cw32 cw33 cw34 cw35
  obtain ⟨wd, hwd⟩ : ∃ wd : World, w3.drew = wd := ⟨_, rfl⟩
  have hbdw : Below w.heap.size w wd := by rw [← hwd]; exact (hb1.trans (hb2x.mono (by omega))).drew
  have hPd : Held wd w.heap.size 59 #[.int .i64 15, .int .i64 addr, .int .i64 count, .int .i64 to, .slice A nb cb, .slice R nr cr] := by rw [← hwd]; exact hPx
  have hb0d : Below w3.heap.size w3 wd := by rw [← hwd]; exact (Below.refl _ _).drew
  have od := own_up ox hb0d
  have hzd : w1.heap.size ≤ wd.heap.size := by rw [← hwd]; exact hzx
  refine wp_region_held (S := Below w1.heap.size wd) (by kernel_rfl) ?_
  change wpAnyH _ _ _ _ _ _ _ _ w3.drew
  rw [hwd]
  have hS := Below.refl w1.heap.size wd
  refine wpAnyH_take (i := 0) (v := ?v0_1) rfl (by kernel_rfl) (by kernel_rfl) (by kernel_rfl) (fun _ _ _ h => h) (Or.inl ⟨by rfl, ?y0_1⟩) hS ?r0_1
  case y0_1 =>
    rintro W hH
    have hPW := hPd.below hH (by omega)
    have q4 : W.cell? ⟨w.heap.size, 4, none⟩ = some (.slice A nb cb) := hPW.cell 4
    have q5 : W.cell? ⟨w.heap.size, 5, none⟩ = some (.slice R nr cr) := hPW.cell 5
    clear hPW
    go_simp
    with_reducible rfl
  simp only [Act.put]
  try simp only [List.getElem_toArray, List.getElem_cons_zero]
  try simp only [List.setIfInBounds_toArray, List.set_cons_succ, List.set_cons_zero]
  refine wpAnyH_take (i := 1) (v := ?v1_2) rfl (by kernel_rfl) (by kernel_rfl) (by kernel_rfl) (fun _ _ _ h => h) (Or.inl ⟨by rfl, ?y1_2⟩) hS ?r1_2
  case y1_2 =>
    rintro W hH
    have hPW := hPd.below hH (by omega)
    have q4 : W.cell? ⟨w.heap.size, 4, none⟩ = some (.slice A nb cb) := hPW.cell 4
    have q5 : W.cell? ⟨w.heap.size, 5, none⟩ = some (.slice R nr cr) := hPW.cell 5
    clear hPW
    go_simp
    with_reducible rfl
  simp only [Act.put]
  try simp only [List.getElem_toArray, List.getElem_cons_succ, List.getElem_cons_zero]
  try simp only [List.setIfInBounds_toArray, List.set_cons_succ, List.set_cons_zero]
  refine wpAnyH_take (i := 2) (v := ?v2_3) rfl (by kernel_rfl) (by kernel_rfl) (by kernel_rfl) (fun _ _ _ h => h) (Or.inl ⟨by rfl, ?y2_3⟩) hS ?r2_3
  case y2_3 =>
    rintro W hH
    have hPW := hPd.below hH (by omega)
    have q4 : W.cell? ⟨w.heap.size, 4, none⟩ = some (.slice A nb cb) := hPW.cell 4
    have q5 : W.cell? ⟨w.heap.size, 5, none⟩ = some (.slice R nr cr) := hPW.cell 5
    clear hPW
    go_simp
    with_reducible rfl
  simp only [Act.put]
  try simp only [List.getElem_toArray, List.getElem_cons_succ, List.getElem_cons_zero]
  try simp only [List.setIfInBounds_toArray, List.set_cons_succ, List.set_cons_zero]
  refine wpAnyH_take (i := 3) (v := ?v3_4) rfl (by kernel_rfl) (by kernel_rfl) (by kernel_rfl) (fun _ _ _ h => h) (Or.inl ⟨by rfl, ?y3_4⟩) hS ?r3_4
  case y3_4 =>
    rintro W hH
    have hPW := hPd.below hH (by omega)
    have q4 : W.cell? ⟨w.heap.size, 4, none⟩ = some (.slice A nb cb) := hPW.cell 4
    have q5 : W.cell? ⟨w.heap.size, 5, none⟩ = some (.slice R nr cr) := hPW.cell 5
    clear hPW
    go_simp
    with_reducible rfl
  simp only [Act.put]
  try simp only [List.getElem_toArray, List.getElem_cons_succ, List.getElem_cons_zero]
  try simp only [List.setIfInBounds_toArray, List.set_cons_succ, List.set_cons_zero]
  refine wpAnyH_take (i := 6) (v := ?v6_5) rfl (by kernel_rfl) (by kernel_rfl) (by kernel_rfl) (fun _ _ _ h => h) (Or.inl ⟨by rfl, ?y6_5⟩) hS ?r6_5
  case y6_5 =>
    rintro W hH
    have hPW := hPd.below hH (by omega)
    have q4 : W.cell? ⟨w.heap.size, 4, none⟩ = some (.slice A nb cb) := hPW.cell 4
    have q5 : W.cell? ⟨w.heap.size, 5, none⟩ = some (.slice R nr cr) := hPW.cell 5
    clear hPW
    go_simp
    with_reducible rfl
  simp only [Act.put]
  try simp only [List.getElem_toArray, List.getElem_cons_succ, List.getElem_cons_zero]
  try simp only [List.setIfInBounds_toArray, List.set_cons_succ, List.set_cons_zero]
  refine wpAnyH_take (i := 7) (v := ?v7_6) rfl (by kernel_rfl) (by kernel_rfl) (by kernel_rfl) (fun _ _ _ h => h) (Or.inl ⟨by rfl, ?y7_6⟩) hS ?r7_6
  case y7_6 =>
    rintro W hH
    have hPW := hPd.below hH (by omega)
    have q4 : W.cell? ⟨w.heap.size, 4, none⟩ = some (.slice A nb cb) := hPW.cell 4
    have q5 : W.cell? ⟨w.heap.size, 5, none⟩ = some (.slice R nr cr) := hPW.cell 5
    clear hPW
    go_simp
    with_reducible rfl
  simp only [Act.put]
  try simp only [List.getElem_toArray, List.getElem_cons_succ, List.getElem_cons_zero]
  try simp only [List.setIfInBounds_toArray, List.set_cons_succ, List.set_cons_zero]
  refine wpAnyH_ready (rs := [4]) (by kernel_rfl) (by simp) ?_
  refine AllReadyH.cons rfl (fun K' hK' => ?_) AllReadyH.nil
  go_simp
  refine hK'.out _ _ (hS.alloc hzd _) (fun hS => ?_)
  clear hK' K'
  refine wpAnyH_ready (rs := [5]) (by kernel_rfl) (by simp) ?_
  refine AllReadyH.cons rfl (fun K' hK' => ?_) AllReadyH.nil
  go_simp
  refine (put_one w1.heap.size v3 3 _ (nb : Int) (by omega) (by omega) wd (by omega) od).mono ?_
  rintro e wp ⟨vp, rfl, op, hbp⟩
  have hSp : Below w1.heap.size wd wp := hbp
  clear hS
  have hzp := hSp.size
  have hbpw := hbdw.trans (hSp.mono (by omega))
  go_simp
  refine hK'.out _ _ hSp (fun hS => ?_)
  clear hK' K'
  refine wpAnyH_ready (rs := [8]) (by kernel_rfl) (by simp) ?_
  refine AllReadyH.cons rfl (fun K' hK' => ?_) AllReadyH.nil
  go_simp
  refine (pack_own A nb cb bits (by omega) wp (HA.out wp hbpw)).mono ?_
  rintro e wq ⟨vq, rfl, oq, hbq⟩
  have hSq : Below w1.heap.size wd wq := hSp.trans (hbq.mono (by omega))
  have hzq := hSq.size
  have op2 := own_up op hbq
  obtain ⟨Ap, cp, rfl, sp⟩ := SlI.of_own op2
  obtain ⟨Aq, cq, rfl, sq⟩ := SlI.of_own oq
  clear op op2 oq hS
  go_simp
  refine hK'.out _ _ hSq (fun hS => ?_)
  clear hK' K'
  refine wpAnyH_ready (rs := [9]) (by kernel_rfl) (by simp) ?_
  refine AllReadyH.cons rfl (fun K' hK' => ?_) AllReadyH.nil
  go_simp
  refine (behind_any Ap (3 + 2) cp _ Aq (packN bits).length cq _ wq sp sq (by omega) (by omega)).mono ?_
  rintro e wr ⟨vr, rfl, orr, hbr⟩
  have hSr : Below w1.heap.size wd wr := hSq.trans (hbr.mono (by omega))
  have hzr := hSr.size
  clear hS
  go_simp
  refine hK'.out _ _ hSr (fun hS => ?_)
  clear hK' K'
  refine wpAnyH_take (i := 10) (v := ?v10_7) rfl (by kernel_rfl) (by kernel_rfl) (by kernel_rfl) (fun _ _ _ h => h) (Or.inl ⟨by rfl, ?y10_7⟩) hS ?r10_7
  case y10_7 =>
    rintro W hH
    have hPW := hPd.below hH (by omega)
    have q4 : W.cell? ⟨w.heap.size, 4, none⟩ = some (.slice A nb cb) := hPW.cell 4
    have q5 : W.cell? ⟨w.heap.size, 5, none⟩ = some (.slice R nr cr) := hPW.cell 5
    clear hPW
    go_simp
    with_reducible rfl
  simp only [Act.put]
  try simp only [List.getElem_toArray, List.getElem_cons_succ, List.getElem_cons_zero]
  try simp only [List.setIfInBounds_toArray, List.set_cons_succ, List.set_cons_zero]
  refine wpAnyH_take (i := 11) (v := ?v11_8) rfl (by kernel_rfl) (by kernel_rfl) (by kernel_rfl) (fun _ _ _ h => h) (Or.inl ⟨by rfl, ?y11_8⟩) hS ?r11_8
  case y11_8 =>
    rintro W hH
    have hPW := hPd.below hH (by omega)
    have q4 : W.cell? ⟨w.heap.size, 4, none⟩ = some (.slice A nb cb) := hPW.cell 4
    have q5 : W.cell? ⟨w.heap.size, 5, none⟩ = some (.slice R nr cr) := hPW.cell 5
    clear hPW
    go_simp
    with_reducible rfl
  simp only [Act.put]
  try simp only [List.getElem_toArray, List.getElem_cons_succ, List.getElem_cons_zero]
  try simp only [List.setIfInBounds_toArray, List.set_cons_succ, List.set_cons_zero]
  refine wpAnyH_done (by kernel_rfl) ?_ _
  go_wp2_with fail
  go_ret2
  exact bytes_post HM.out (by unfold bytesP; simp only; rw [if_neg (by omega), if_neg (by omega), if_pos trivial, HLB.out]) orr (hbdw.trans (hSr.mono (by omega)))
end Go.Proofs.YtcipleanckeoaaaDoor
namespace Go.Proofs.YtcipleanckeoaaaDoor
open Go.RowKit
set_option linter.unusedVariables false

set_option maxRecDepth 100000 in
set_option maxHeartbeats 2000000 in
theorem bytes_16 (fn addr count to : Int) (bits : List Bool) (regs : List Int) (A : Option Addr) (nb cb : Nat) (R : Option Addr) (nr cr : Nat) (w : World) (hT : LimT w) (hA : SlB w w.heap.size A nb cb bits) (hR : SlI w w.heap.size .u16 R nr cr regs) (hm : mayP ⟨fn, addr, count, to, bits, regs⟩ = true) (hy : Reg16 regs) (ha : 0 ≤ addr ∧ addr < 65536) (hfn : fn = 16) (hnr : nr ≤ 123) : Calls Tryd.prog 27 #[.agg #[.int .i64 fn, .int .i64 addr, .int .i64 count, .int .i64 to, .slice A nb cb, .slice R nr cr]] w (BytesPost w ⟨fn, addr, count, to, bits, regs⟩) := by
  obtain ⟨w1, hw1⟩ : ∃ w1, w.alloc (.cells #[.int .i64 fn, .int .i64 addr, .int .i64 count, .int .i64 to, .slice A nb cb, .slice R nr cr] 59) = w1 := ⟨_, rfl⟩
  have hb1 : Below w.heap.size w w1 := by rw [← hw1]; exact (Below.refl _ w).alloc (Nat.le_refl _) _
  have hz1 : w1.heap.size = w.heap.size + 1 := by rw [← hw1]; simp
  have hP1 : Held w1 w.heap.size 59 #[.int .i64 fn, .int .i64 addr, .int .i64 count, .int .i64 to, .slice A nb cb, .slice R nr cr] := by rw [← hw1]; exact Held.new _ _ _
  have hu := Tryd.underlying59
  have hsz : (Tryd.prog.info? 59).map (·.size) = some 6 := by kernel_rfl
  have hc := check_own (.agg #[.int .i64 fn, .int .i64 addr, .int .i64 count, .int .i64 to, .slice A nb cb, .slice R nr cr]) ⟨fn, addr, count, to, bits, regs⟩ w1 (hT.up hb1) ⟨A, nb, cb, R, nr, cr, rfl, hA.up hb1, hR.up hb1⟩
  rw [hm] at hc
  have HC := Lib.hid hc
  have he : errV true = 0 := rfl
  clear hT hc
  have HM := Lib.hid hm
  have HA := Lib.hid (fun (X : World) (h : Below w.heap.size w X) => hA.up h)
  have HR := Lib.hid (fun (X : World) (h : Below w.heap.size w X) => hR.up h)
  have HLB := Lib.hid hA.1
  have HLR := Lib.hid hR.1
  clear hA hR hm
  subst hfn
  go_in
  go_wp2_with ((with_reducible refine at_loadT 59 1 ?_); refine wpList_load_rowG rfl 59 (.tmp 1) rfl w.heap.size rfl 59 _ _ hP1 hu rfl hsz ?_)
  refine HC.out.mono ?_
  rintro e w2 ⟨rfl, hb2⟩
  have hz2 := hb2.size
  have hP2 := hP1.below hb2 hP1.lt
  have hlt2 := hP2.lt
  have cw20 : w2.cell? ⟨w.heap.size, 0, none⟩ = some (.int .i64 16) := hP2.cell 0
  have cw21 : w2.cell? ⟨w.heap.size, 1, none⟩ = some (.int .i64 addr) := hP2.cell 1
  have HPF := Lib.hid (put_first w1.heap.size 16 addr ha w2 hz2)
  have hf1 : True := by trivial
  go_wp2_with fail
  refine HPF.out.mono ?_
  rintro e w3 ⟨v3, rfl, o3, hb3⟩
  have hb23 := hb2.trans hb3
  have hz3 := hb23.size
  have hP3 := hP1.below hb23 hP1.lt
  have hlt3 := hP3.lt
  have hb3w := hb1.trans (hb23.mono (by omega))
  have cw30 : w3.cell? ⟨w.heap.size, 0, none⟩ = some (.int .i64 16) := hP3.cell 0
  have cw31 : w3.cell? ⟨w.heap.size, 1, none⟩ = some (.int .i64 addr) := hP3.cell 1
  have cw32 : w3.cell? ⟨w.heap.size, 2, none⟩ = some (.int .i64 count) := hP3.cell 2
  have cw33 : w3.cell? ⟨w.heap.size, 3, none⟩ = some (.int .i64 to) := hP3.cell 3
  have cw34 : w3.cell? ⟨w.heap.size, 4, none⟩ = some (.slice A nb cb) := hP3.cell 4
  have cw35 : w3.cell? ⟨w.heap.size, 5, none⟩ = some (.slice R nr cr) := hP3.cell 5
  clear cw20 cw21 hP2 hP1
  have hb2x := hb23
  have hPx := hP3
  have ox := o3
  have hzx := hz3
  go_wp2_with fail
  clear cw30 cw31 cw32 cw33 cw34 cw35
  obtain ⟨wd, hwd⟩ : ∃ wd : World, w3.drew = wd := ⟨_, rfl⟩
  have hbdw : Below w.heap.size w wd := by rw [← hwd]; exact (hb1.trans (hb2x.mono (by omega))).drew
  have hPd : Held wd w.heap.size 59 #[.int .i64 16, .int .i64 addr, .int .i64 count, .int .i64 to, .slice A nb cb, .slice R nr cr] := by rw [← hwd]; exact hPx
  have hb0d : Below w3.heap.size w3 wd := by rw [← hwd]; exact (Below.refl _ _).drew
  have od := own_up ox hb0d
  have hzd : w1.heap.size ≤ wd.heap.size := by rw [← hwd]; exact hzx
  refine wp_region_held (S := Below w1.heap.size wd) (by kernel_rfl) ?_
  change wpAnyH _ _ _ _ _ _ _ _ w3.drew
  rw [hwd]
  have hS := Below.refl w1.heap.size wd
  refine wpAnyH_take (i := 0) (v := ?v0_1) rfl (by kernel_rfl) (by kernel_rfl) (by kernel_rfl) (fun _ _ _ h => h) (Or.inl ⟨by rfl, ?y0_1⟩) hS ?r0_1
  case y0_1 =>
    rintro W hH
    have hPW := hPd.below hH (by omega)
    have q4 : W.cell? ⟨w.heap.size, 4, none⟩ = some (.slice A nb cb) := hPW.cell 4
    have q5 : W.cell? ⟨w.heap.size, 5, none⟩ = some (.slice R nr cr) := hPW.cell 5
    clear hPW
    go_simp
    with_reducible rfl
  simp only [Act.put]
  try simp only [List.getElem_toArray, List.getElem_cons_zero]
  try simp only [List.setIfInBounds_toArray, List.set_cons_succ, List.set_cons_zero]
  refine wpAnyH_take (i := 1) (v := ?v1_2) rfl (by kernel_rfl) (by kernel_rfl) (by kernel_rfl) (fun _ _ _ h => h) (Or.inl ⟨by rfl, ?y1_2⟩) hS ?r1_2
  case y1_2 =>
    rintro W hH
    have hPW := hPd.below hH (by omega)
    have q4 : W.cell? ⟨w.heap.size, 4, none⟩ = some (.slice A nb cb) := hPW.cell 4
    have q5 : W.cell? ⟨w.heap.size, 5, none⟩ = some (.slice R nr cr) := hPW.cell 5
    clear hPW
    go_simp
    with_reducible rfl
  simp only [Act.put]
  try simp only [List.getElem_toArray, List.getElem_cons_succ, List.getElem_cons_zero]
  try simp only [List.setIfInBounds_toArray, List.set_cons_succ, List.set_cons_zero]
  refine wpAnyH_take (i := 2) (v := ?v2_3) rfl (by kernel_rfl) (by kernel_rfl) (by kernel_rfl) (fun _ _ _ h => h) (Or.inl ⟨by rfl, ?y2_3⟩) hS ?r2_3
  case y2_3 =>
    rintro W hH
    have hPW := hPd.below hH (by omega)
    have q4 : W.cell? ⟨w.heap.size, 4, none⟩ = some (.slice A nb cb) := hPW.cell 4
    have q5 : W.cell? ⟨w.heap.size, 5, none⟩ = some (.slice R nr cr) := hPW.cell 5
    clear hPW
    go_simp
    with_reducible rfl
  simp only [Act.put]
  try simp only [List.getElem_toArray, List.getElem_cons_succ, List.getElem_cons_zero]
  try simp only [List.setIfInBounds_toArray, List.set_cons_succ, List.set_cons_zero]
  refine wpAnyH_take (i := 3) (v := ?v3_4) rfl (by kernel_rfl) (by kernel_rfl) (by kernel_rfl) (fun _ _ _ h => h) (Or.inl ⟨by rfl, ?y3_4⟩) hS ?r3_4
  case y3_4 =>
    rintro W hH
    have hPW := hPd.below hH (by omega)
    have q4 : W.cell? ⟨w.heap.size, 4, none⟩ = some (.slice A nb cb) := hPW.cell 4
    have q5 : W.cell? ⟨w.heap.size, 5, none⟩ = some (.slice R nr cr) := hPW.cell 5
    clear hPW
    go_simp
    with_reducible rfl
  simp only [Act.put]
  try simp only [List.getElem_toArray, List.getElem_cons_succ, List.getElem_cons_zero]
  try simp only [List.setIfInBounds_toArray, List.set_cons_succ, List.set_cons_zero]
  refine wpAnyH_take (i := 6) (v := ?v6_5) rfl (by kernel_rfl) (by kernel_rfl) (by kernel_rfl) (fun _ _ _ h => h) (Or.inl ⟨by rfl, ?y6_5⟩) hS ?r6_5
  case y6_5 =>
    rintro W hH
    have hPW := hPd.below hH (by omega)
    have q4 : W.cell? ⟨w.heap.size, 4, none⟩ = some (.slice A nb cb) := hPW.cell 4
    have q5 : W.cell? ⟨w.heap.size, 5, none⟩ = some (.slice R nr cr) := hPW.cell 5
    clear hPW
    go_simp
    with_reducible rfl
  simp only [Act.put]
  try simp only [List.getElem_toArray, List.getElem_cons_succ, List.getElem_cons_zero]
  try simp only [List.setIfInBounds_toArray, List.set_cons_succ, List.set_cons_zero]
  refine wpAnyH_take (i := 7) (v := ?v7_6) rfl (by kernel_rfl) (by kernel_rfl) (by kernel_rfl) (fun _ _ _ h => h) (Or.inl ⟨by rfl, ?y7_6⟩) hS ?r7_6
  case y7_6 =>
    rintro W hH
    have hPW := hPd.below hH (by omega)
    have q4 : W.cell? ⟨w.heap.size, 4, none⟩ = some (.slice A nb cb) := hPW.cell 4
    have q5 : W.cell? ⟨w.heap.size, 5, none⟩ = some (.slice R nr cr) := hPW.cell 5
    clear hPW
    go_simp
    with_reducible rfl
  simp only [Act.put]
  try simp only [List.getElem_toArray, List.getElem_cons_succ, List.getElem_cons_zero]
  try simp only [List.setIfInBounds_toArray, List.set_cons_succ, List.set_cons_zero]
  refine wpAnyH_ready (rs := [4]) (by kernel_rfl) (by simp) ?_
  refine AllReadyH.cons rfl (fun K' hK' => ?_) AllReadyH.nil
  go_simp
  refine hK'.out _ _ (hS.alloc hzd _) (fun hS => ?_)
  clear hK' K'
  refine wpAnyH_ready (rs := [5]) (by kernel_rfl) (by simp) ?_
  refine AllReadyH.cons rfl (fun K' hK' => ?_) AllReadyH.nil
  go_simp
  refine (put_one w1.heap.size v3 3 _ (nr : Int) (by omega) (by omega) wd (by omega) od).mono ?_
  rintro e wp ⟨vp, rfl, op, hbp⟩
  have hSp : Below w1.heap.size wd wp := hbp
  clear hS
  have hzp := hSp.size
  have hbpw := hbdw.trans (hSp.mono (by omega))
  go_simp
  refine hK'.out _ _ hSp (fun hS => ?_)
  clear hK' K'
  refine wpAnyH_ready (rs := [8]) (by kernel_rfl) (by simp) ?_
  refine AllReadyH.cons rfl (fun K' hK' => ?_) AllReadyH.nil
  go_simp
  refine (rbytes_any R nr cr regs (by omega) hy wp (HR.out wp hbpw)).mono ?_
  rintro e wq ⟨vq, rfl, oq, hbq⟩
  have hSq : Below w1.heap.size wd wq := hSp.trans (hbq.mono (by omega))
  have hzq := hSq.size
  have op2 := own_up op hbq
  obtain ⟨Ap, cp, rfl, sp⟩ := SlI.of_own op2
  obtain ⟨Aq, cq, rfl, sq⟩ := SlI.of_own oq
  clear op op2 oq hS
  go_simp
  refine hK'.out _ _ hSq (fun hS => ?_)
  clear hK' K'
  refine wpAnyH_ready (rs := [9]) (by kernel_rfl) (by simp) ?_
  refine AllReadyH.cons rfl (fun K' hK' => ?_) AllReadyH.nil
  go_simp
  refine (behind_any Ap (3 + 2) cp _ Aq (2 * nr) cq _ wq sp sq (by omega) (by omega)).mono ?_
  rintro e wr ⟨vr, rfl, orr, hbr⟩
  have hSr : Below w1.heap.size wd wr := hSq.trans (hbr.mono (by omega))
  have hzr := hSr.size
  clear hS
  go_simp
  refine hK'.out _ _ hSr (fun hS => ?_)
  clear hK' K'
  refine wpAnyH_take (i := 10) (v := ?v10_7) rfl (by kernel_rfl) (by kernel_rfl) (by kernel_rfl) (fun _ _ _ h => h) (Or.inl ⟨by rfl, ?y10_7⟩) hS ?r10_7
  case y10_7 =>
    rintro W hH
    have hPW := hPd.below hH (by omega)
    have q4 : W.cell? ⟨w.heap.size, 4, none⟩ = some (.slice A nb cb) := hPW.cell 4
    have q5 : W.cell? ⟨w.heap.size, 5, none⟩ = some (.slice R nr cr) := hPW.cell 5
    clear hPW
    go_simp
    with_reducible rfl
  simp only [Act.put]
  try simp only [List.getElem_toArray, List.getElem_cons_succ, List.getElem_cons_zero]
  try simp only [List.setIfInBounds_toArray, List.set_cons_succ, List.set_cons_zero]
  refine wpAnyH_take (i := 11) (v := ?v11_8) rfl (by kernel_rfl) (by kernel_rfl) (by kernel_rfl) (fun _ _ _ h => h) (Or.inl ⟨by rfl, ?y11_8⟩) hS ?r11_8
  case y11_8 =>
    rintro W hH
    have hPW := hPd.below hH (by omega)
    have q4 : W.cell? ⟨w.heap.size, 4, none⟩ = some (.slice A nb cb) := hPW.cell 4
    have q5 : W.cell? ⟨w.heap.size, 5, none⟩ = some (.slice R nr cr) := hPW.cell 5
    clear hPW
    go_simp
    with_reducible rfl
  simp only [Act.put]
  try simp only [List.getElem_toArray, List.getElem_cons_succ, List.getElem_cons_zero]
  try simp only [List.setIfInBounds_toArray, List.set_cons_succ, List.set_cons_zero]
  refine wpAnyH_done (by kernel_rfl) ?_ _
  go_wp2_with fail
  go_ret2
  exact bytes_post HM.out (by unfold bytesP; simp only; rw [if_neg (by omega), if_neg (by omega), if_neg (by omega), if_pos trivial, HLR.out, show ((2 * nr : Nat) : Int) = 2 * (nr : Int) by omega]) orr (hbdw.trans (hSr.mono (by omega)))
end Go.Proofs.YtcipleanckeoaaaDoor
namespace Go.Proofs.YtcipleanckeoaaaDoor
open Go.RowKit
set_option linter.unusedVariables false

set_option maxRecDepth 100000 in
set_option maxHeartbeats 2000000 in
theorem bytes_23 (fn addr count to : Int) (bits : List Bool) (regs : List Int) (A : Option Addr) (nb cb : Nat) (R : Option Addr) (nr cr : Nat) (w : World) (hT : LimT w) (hA : SlB w w.heap.size A nb cb bits) (hR : SlI w w.heap.size .u16 R nr cr regs) (hm : mayP ⟨fn, addr, count, to, bits, regs⟩ = true) (hy : Reg16 regs) (ha : 0 ≤ addr ∧ addr < 65536) (hfn : fn = 23) (hnr : nr ≤ 121) (hcnt : 0 ≤ count ∧ count < 65536) (hto : 0 ≤ to ∧ to < 65536) : Calls Tryd.prog 27 #[.agg #[.int .i64 fn, .int .i64 addr, .int .i64 count, .int .i64 to, .slice A nb cb, .slice R nr cr]] w (BytesPost w ⟨fn, addr, count, to, bits, regs⟩) := by
  obtain ⟨w1, hw1⟩ : ∃ w1, w.alloc (.cells #[.int .i64 fn, .int .i64 addr, .int .i64 count, .int .i64 to, .slice A nb cb, .slice R nr cr] 59) = w1 := ⟨_, rfl⟩
  have hb1 : Below w.heap.size w w1 := by rw [← hw1]; exact (Below.refl _ w).alloc (Nat.le_refl _) _
  have hz1 : w1.heap.size = w.heap.size + 1 := by rw [← hw1]; simp
  have hP1 : Held w1 w.heap.size 59 #[.int .i64 fn, .int .i64 addr, .int .i64 count, .int .i64 to, .slice A nb cb, .slice R nr cr] := by rw [← hw1]; exact Held.new _ _ _
  have hu := Tryd.underlying59
  have hsz : (Tryd.prog.info? 59).map (·.size) = some 6 := by kernel_rfl
  have hc := check_own (.agg #[.int .i64 fn, .int .i64 addr, .int .i64 count, .int .i64 to, .slice A nb cb, .slice R nr cr]) ⟨fn, addr, count, to, bits, regs⟩ w1 (hT.up hb1) ⟨A, nb, cb, R, nr, cr, rfl, hA.up hb1, hR.up hb1⟩
  rw [hm] at hc
  have HC := Lib.hid hc
  have he : errV true = 0 := rfl
  clear hT hc
  have HM := Lib.hid hm
  have HA := Lib.hid (fun (X : World) (h : Below w.heap.size w X) => hA.up h)
  have HR := Lib.hid (fun (X : World) (h : Below w.heap.size w X) => hR.up h)
  have HLB := Lib.hid hA.1
  have HLR := Lib.hid hR.1
  clear hA hR hm
  subst hfn
  go_in
  go_wp2_with ((with_reducible refine at_loadT 59 1 ?_); refine wpList_load_rowG rfl 59 (.tmp 1) rfl w.heap.size rfl 59 _ _ hP1 hu rfl hsz ?_)
  refine HC.out.mono ?_
  rintro e w2 ⟨rfl, hb2⟩
  have hz2 := hb2.size
  have hP2 := hP1.below hb2 hP1.lt
  have hlt2 := hP2.lt
  have cw20 : w2.cell? ⟨w.heap.size, 0, none⟩ = some (.int .i64 23) := hP2.cell 0
  have cw21 : w2.cell? ⟨w.heap.size, 1, none⟩ = some (.int .i64 addr) := hP2.cell 1
  have HPF := Lib.hid (put_first w1.heap.size 23 addr ha w2 hz2)
  have hf1 : True := by trivial
  go_wp2_with fail
  refine HPF.out.mono ?_
  rintro e w3 ⟨v3, rfl, o3, hb3⟩
  have hb23 := hb2.trans hb3
  have hz3 := hb23.size
  have hP3 := hP1.below hb23 hP1.lt
  have hlt3 := hP3.lt
  have hb3w := hb1.trans (hb23.mono (by omega))
  have cw30 : w3.cell? ⟨w.heap.size, 0, none⟩ = some (.int .i64 23) := hP3.cell 0
  have cw31 : w3.cell? ⟨w.heap.size, 1, none⟩ = some (.int .i64 addr) := hP3.cell 1
  have cw32 : w3.cell? ⟨w.heap.size, 2, none⟩ = some (.int .i64 count) := hP3.cell 2
  have cw33 : w3.cell? ⟨w.heap.size, 3, none⟩ = some (.int .i64 to) := hP3.cell 3
  have cw34 : w3.cell? ⟨w.heap.size, 4, none⟩ = some (.slice A nb cb) := hP3.cell 4
  have cw35 : w3.cell? ⟨w.heap.size, 5, none⟩ = some (.slice R nr cr) := hP3.cell 5
  clear cw20 cw21 hP2 hP1
  have HPT := Lib.hid (put_two w1.heap.size v3 3 _ count to hcnt hto (by omega) w3 (by omega) o3)
  go_wp2_with fail
  refine HPT.out.mono ?_
  rintro e w4 ⟨v4, rfl, ox, hb4⟩
  have hb2x := hb23.trans hb4
  have hzx := hb2x.size
  have hPx := hP3.below hb4 (by omega)
  clear cw30 cw31 cw32 cw33 cw34 cw35
  go_wp2_with fail
  obtain ⟨wd, hwd⟩ : ∃ wd : World, w4.drew = wd := ⟨_, rfl⟩
  have hbdw : Below w.heap.size w wd := by rw [← hwd]; exact (hb1.trans (hb2x.mono (by omega))).drew
  have hPd : Held wd w.heap.size 59 #[.int .i64 23, .int .i64 addr, .int .i64 count, .int .i64 to, .slice A nb cb, .slice R nr cr] := by rw [← hwd]; exact hPx
  have hb0d : Below w4.heap.size w4 wd := by rw [← hwd]; exact (Below.refl _ _).drew
  have od := own_up ox hb0d
  have hzd : w1.heap.size ≤ wd.heap.size := by rw [← hwd]; exact hzx
  refine wp_region_held (S := Below w1.heap.size wd) (by kernel_rfl) ?_
  change wpAnyH _ _ _ _ _ _ _ _ w4.drew
  rw [hwd]
  have hS := Below.refl w1.heap.size wd
  refine wpAnyH_take (i := 0) (v := ?v0_1) rfl (by kernel_rfl) (by kernel_rfl) (by kernel_rfl) (fun _ _ _ h => h) (Or.inl ⟨by rfl, ?y0_1⟩) hS ?r0_1
  case y0_1 =>
    rintro W hH
    have hPW := hPd.below hH (by omega)
    have q4 : W.cell? ⟨w.heap.size, 4, none⟩ = some (.slice A nb cb) := hPW.cell 4
    have q5 : W.cell? ⟨w.heap.size, 5, none⟩ = some (.slice R nr cr) := hPW.cell 5
    clear hPW
    go_simp
    with_reducible rfl
  simp only [Act.put]
  try simp only [List.getElem_toArray, List.getElem_cons_zero]
  try simp only [List.setIfInBounds_toArray, List.set_cons_succ, List.set_cons_zero]
  refine wpAnyH_take (i := 1) (v := ?v1_2) rfl (by kernel_rfl) (by kernel_rfl) (by kernel_rfl) (fun _ _ _ h => h) (Or.inl ⟨by rfl, ?y1_2⟩) hS ?r1_2
  case y1_2 =>
    rintro W hH
    have hPW := hPd.below hH (by omega)
    have q4 : W.cell? ⟨w.heap.size, 4, none⟩ = some (.slice A nb cb) := hPW.cell 4
    have q5 : W.cell? ⟨w.heap.size, 5, none⟩ = some (.slice R nr cr) := hPW.cell 5
    clear hPW
    go_simp
    with_reducible rfl
  simp only [Act.put]
  try simp only [List.getElem_toArray, List.getElem_cons_succ, List.getElem_cons_zero]
  try simp only [List.setIfInBounds_toArray, List.set_cons_succ, List.set_cons_zero]
  refine wpAnyH_take (i := 2) (v := ?v2_3) rfl (by kernel_rfl) (by kernel_rfl) (by kernel_rfl) (fun _ _ _ h => h) (Or.inl ⟨by rfl, ?y2_3⟩) hS ?r2_3
  case y2_3 =>
    rintro W hH
    have hPW := hPd.below hH (by omega)
    have q4 : W.cell? ⟨w.heap.size, 4, none⟩ = some (.slice A nb cb) := hPW.cell 4
    have q5 : W.cell? ⟨w.heap.size, 5, none⟩ = some (.slice R nr cr) := hPW.cell 5
    clear hPW
    go_simp
    with_reducible rfl
  simp only [Act.put]
  try simp only [List.getElem_toArray, List.getElem_cons_succ, List.getElem_cons_zero]
  try simp only [List.setIfInBounds_toArray, List.set_cons_succ, List.set_cons_zero]
  refine wpAnyH_take (i := 3) (v := ?v3_4) rfl (by kernel_rfl) (by kernel_rfl) (by kernel_rfl) (fun _ _ _ h => h) (Or.inl ⟨by rfl, ?y3_4⟩) hS ?r3_4
  case y3_4 =>
    rintro W hH
    have hPW := hPd.below hH (by omega)
    have q4 : W.cell? ⟨w.heap.size, 4, none⟩ = some (.slice A nb cb) := hPW.cell 4
    have q5 : W.cell? ⟨w.heap.size, 5, none⟩ = some (.slice R nr cr) := hPW.cell 5
    clear hPW
    go_simp
    with_reducible rfl
  simp only [Act.put]
  try simp only [List.getElem_toArray, List.getElem_cons_succ, List.getElem_cons_zero]
  try simp only [List.setIfInBounds_toArray, List.set_cons_succ, List.set_cons_zero]
  refine wpAnyH_take (i := 6) (v := ?v6_5) rfl (by kernel_rfl) (by kernel_rfl) (by kernel_rfl) (fun _ _ _ h => h) (Or.inl ⟨by rfl, ?y6_5⟩) hS ?r6_5
  case y6_5 =>
    rintro W hH
    have hPW := hPd.below hH (by omega)
    have q4 : W.cell? ⟨w.heap.size, 4, none⟩ = some (.slice A nb cb) := hPW.cell 4
    have q5 : W.cell? ⟨w.heap.size, 5, none⟩ = some (.slice R nr cr) := hPW.cell 5
    clear hPW
    go_simp
    with_reducible rfl
  simp only [Act.put]
  try simp only [List.getElem_toArray, List.getElem_cons_succ, List.getElem_cons_zero]
  try simp only [List.setIfInBounds_toArray, List.set_cons_succ, List.set_cons_zero]
  refine wpAnyH_take (i := 7) (v := ?v7_6) rfl (by kernel_rfl) (by kernel_rfl) (by kernel_rfl) (fun _ _ _ h => h) (Or.inl ⟨by rfl, ?y7_6⟩) hS ?r7_6
  case y7_6 =>
    rintro W hH
    have hPW := hPd.below hH (by omega)
    have q4 : W.cell? ⟨w.heap.size, 4, none⟩ = some (.slice A nb cb) := hPW.cell 4
    have q5 : W.cell? ⟨w.heap.size, 5, none⟩ = some (.slice R nr cr) := hPW.cell 5
    clear hPW
    go_simp
    with_reducible rfl
  simp only [Act.put]
  try simp only [List.getElem_toArray, List.getElem_cons_succ, List.getElem_cons_zero]
  try simp only [List.setIfInBounds_toArray, List.set_cons_succ, List.set_cons_zero]
  refine wpAnyH_ready (rs := [4]) (by kernel_rfl) (by simp) ?_
  refine AllReadyH.cons rfl (fun K' hK' => ?_) AllReadyH.nil
  go_simp
  refine hK'.out _ _ (hS.alloc hzd _) (fun hS => ?_)
  clear hK' K'
  refine wpAnyH_ready (rs := [5]) (by kernel_rfl) (by simp) ?_
  refine AllReadyH.cons rfl (fun K' hK' => ?_) AllReadyH.nil
  go_simp
  refine (put_one w1.heap.size v4 (3 + 4) _ (nr : Int) (by omega) (by omega) wd (by omega) od).mono ?_
  rintro e wp ⟨vp, rfl, op, hbp⟩
  have hSp : Below w1.heap.size wd wp := hbp
  clear hS
  have hzp := hSp.size
  have hbpw := hbdw.trans (hSp.mono (by omega))
  go_simp
  refine hK'.out _ _ hSp (fun hS => ?_)
  clear hK' K'
  refine wpAnyH_ready (rs := [8]) (by kernel_rfl) (by simp) ?_
  refine AllReadyH.cons rfl (fun K' hK' => ?_) AllReadyH.nil
  go_simp
  refine (rbytes_any R nr cr regs (by omega) hy wp (HR.out wp hbpw)).mono ?_
  rintro e wq ⟨vq, rfl, oq, hbq⟩
  have hSq : Below w1.heap.size wd wq := hSp.trans (hbq.mono (by omega))
  have hzq := hSq.size
  have op2 := own_up op hbq
  obtain ⟨Ap, cp, rfl, sp⟩ := SlI.of_own op2
  obtain ⟨Aq, cq, rfl, sq⟩ := SlI.of_own oq
  clear op op2 oq hS
  go_simp
  refine hK'.out _ _ hSq (fun hS => ?_)
  clear hK' K'
  refine wpAnyH_ready (rs := [9]) (by kernel_rfl) (by simp) ?_
  refine AllReadyH.cons rfl (fun K' hK' => ?_) AllReadyH.nil
  go_simp
  refine (behind_any Ap ((3 + 4) + 2) cp _ Aq (2 * nr) cq _ wq sp sq (by omega) (by omega)).mono ?_
  rintro e wr ⟨vr, rfl, orr, hbr⟩
  have hSr : Below w1.heap.size wd wr := hSq.trans (hbr.mono (by omega))
  have hzr := hSr.size
  clear hS
  go_simp
  refine hK'.out _ _ hSr (fun hS => ?_)
  clear hK' K'
  refine wpAnyH_take (i := 10) (v := ?v10_7) rfl (by kernel_rfl) (by kernel_rfl) (by kernel_rfl) (fun _ _ _ h => h) (Or.inl ⟨by rfl, ?y10_7⟩) hS ?r10_7
  case y10_7 =>
    rintro W hH
    have hPW := hPd.below hH (by omega)
    have q4 : W.cell? ⟨w.heap.size, 4, none⟩ = some (.slice A nb cb) := hPW.cell 4
    have q5 : W.cell? ⟨w.heap.size, 5, none⟩ = some (.slice R nr cr) := hPW.cell 5
    clear hPW
    go_simp
    with_reducible rfl
  simp only [Act.put]
  try simp only [List.getElem_toArray, List.getElem_cons_succ, List.getElem_cons_zero]
  try simp only [List.setIfInBounds_toArray, List.set_cons_succ, List.set_cons_zero]
  refine wpAnyH_take (i := 11) (v := ?v11_8) rfl (by kernel_rfl) (by kernel_rfl) (by kernel_rfl) (fun _ _ _ h => h) (Or.inl ⟨by rfl, ?y11_8⟩) hS ?r11_8
  case y11_8 =>
    rintro W hH
    have hPW := hPd.below hH (by omega)
    have q4 : W.cell? ⟨w.heap.size, 4, none⟩ = some (.slice A nb cb) := hPW.cell 4
    have q5 : W.cell? ⟨w.heap.size, 5, none⟩ = some (.slice R nr cr) := hPW.cell 5
    clear hPW
    go_simp
    with_reducible rfl
  simp only [Act.put]
  try simp only [List.getElem_toArray, List.getElem_cons_succ, List.getElem_cons_zero]
  try simp only [List.setIfInBounds_toArray, List.set_cons_succ, List.set_cons_zero]
  refine wpAnyH_done (by kernel_rfl) ?_ _
  go_wp2_with fail
  go_ret2
  exact bytes_post HM.out (by unfold bytesP; simp only; rw [if_neg (by omega), if_neg (by omega), if_neg (by omega), if_neg (by omega), if_pos trivial, HLR.out, show ((2 * nr : Nat) : Int) = 2 * (nr : Int) by omega]) orr (hbdw.trans (hSr.mono (by omega)))
end Go.Proofs.YtcipleanckeoaaaDoor
namespace Go.Proofs.YtcipleanckeoaaaDoor
open Go.RowKit
set_option linter.unusedVariables false

theorem bytes_own (u : Value) (p : AskP) (w : World) (hT : LimT w) (hu : AskAt w u p) (hy : Reg16 p.regs) : Calls Tryd.prog 27 #[u] w (BytesPost w p) := by
  obtain ⟨A, nb, cb, R, nr, cr, rfl, hA, hR⟩ := hu
  obtain ⟨fn, addr, count, to, bits, regs⟩ := p
  dsimp only at hA hR hy ⊢
  cases hm : mayP ⟨fn, addr, count, to, bits, regs⟩ with
  | false => exact bytes_no fn addr count to bits regs A nb cb R nr cr w hT hA hR hm
  | true =>
    obtain ⟨⟨ha, ht⟩, hc⟩ := may_cases _ hm
    have la := hA.1
    have lr := hR.1
    simp only at hc ha ht
    rcases hc with ⟨e, hn, _⟩ | ⟨e, hn, _⟩ | ⟨e, _, ⟨b, hb⟩, _⟩ | ⟨e, _, _, ⟨r, hr⟩, _⟩ | ⟨e, _, hn, _⟩ | ⟨e, _, _, hn, _⟩ | ⟨e, hn, _, hk⟩
    · exact bytes_rd fn addr count to bits regs A nb cb R nr cr w hT hA hR hm hy ha (by omega) (by omega)
    · exact bytes_rd fn addr count to bits regs A nb cb R nr cr w hT hA hR hm hy ha (by omega) (by omega)
    · exact bytes_5 fn addr count to bits regs A nb cb R nr cr w hT hA hR hm hy ha e b hb
    · exact bytes_6 fn addr count to bits regs A nb cb R nr cr w hT hA hR hm hy ha e r hr
    · exact bytes_15 fn addr count to bits regs A nb cb R nr cr w hT hA hR hm hy ha e (by omega)
    · exact bytes_16 fn addr count to bits regs A nb cb R nr cr w hT hA hR hm hy ha e (by omega)
    · exact bytes_23 fn addr count to bits regs A nb cb R nr cr w hT hA hR hm hy ha e (by omega) (by omega) ht
end Go.Proofs.YtcipleanckeoaaaDoor
