/- The right bytes: the program's. -/
import Derived.Test.YtcipleanckeoaaaDoorYTk
import Derived.Test.YtcipleanckeoaaaDoorYBusRefB
import Derived.Test.YtcipleanckeoaaaDoorYPduFrom
import Derived.Test.YtcipleanckeoaaaDoorYPduRead
import Derived.Test.YtcipleanckeoaaaDoorYPduAnswer
import Derived.Deep.Cut
set_option maxRecDepth 100000
set_option maxHeartbeats 40000000
namespace Go.Proofs.YtcipleanckeoaaaDoor
open Go.RowKit
attribute [local go_sem] Oper.semAt_some
set_option linter.unusedVariables false
set_option linter.unusedSimpArgs false
def SlPost (w : World) (xs : List Int) (e : Ending) (w' : World) : Prop := ∃ A n c, e = .returned (.slice A n c) ∧ SlI w' w'.heap.size .u8 A n c xs ∧ Below w.heap.size w w'
def rightP (req regs : List Int) (unit : Int) : List Int := match readR req with
 | none => []
 | some (u, pdu) => if u = 0 then [] else if (readP pdu).2.2 ≠ 0 ∨ ((readP pdu).1.fn ≠ 3 ∧ (readP pdu).1.fn ≠ 4) then [] else
  match answerP (readP pdu).1 ⟨(readP pdu).1.fn, 0, [], regs⟩ with
  | none => []
  | some b => (rtuB (if unit < 0 then u else unit) b).getD []
def OwnPost (w : World) (xs : List Int) (e : Ending) (w' : World) : Prop := ∃ v m, e = .returned v ∧ w'.ownsRow w.heap.size 5 1 v m (xs.map (Value.int .u8)) ∧ Below w.heap.size w w'
theorem owns_low {w : World} {b b' : Nat} {e : TypeId} {s m : Nat} {v : Value} {xs : List Value} (h : w.ownsRow b e s v m xs) (hb : b' ≤ b) : w.ownsRow b' e s v m xs := by
 refine ⟨h.1, ?_⟩
 rcases h.2 with q | ⟨g, cap, cur, q1, q2, q3⟩
 ·exact .inl q
 ·exact .inr ⟨g, cap, cur, q1, Nat.le_trans hb q2, q3⟩
theorem readR_facts {b : List Int} (h8 : Byte8 b) {u : Int} {p : List Int} (h : readR b = some (u, p)) : (0 ≤ u ∧ u ≤ 247) ∧ Byte8 p ∧ 1 ≤ p.length ∧ p.length ≤ 253 := by
 unfold readR openL at h
 split at h
 ·cases h
 ·rename_i l hl
  split at hl
  ·cases hl
   split at h
   ·rename_i hc
    simp only [Option.some.injEq, Prod.mk.injEq] at h
    obtain ⟨rfl, rfl⟩ := h
    have h8' : Byte8 (b.take (b.length - 2)) := fun y hy => h8 y (List.mem_of_mem_take hy)
    refine ⟨⟨?_, hc.2.2⟩, fun y hy => h8' y (List.mem_of_mem_drop hy), ?_, ?_⟩
    ·cases hb : b.take (b.length - 2) with
     | nil => simp
     | cons a t => have := h8' a (by rw [hb]; exact List.mem_cons_self ..); simp; omega
    ·rw [List.length_drop]; omega
    ·rw [List.length_drop]; omega
   ·cases h
  ·cases hl
theorem readP_facts {b : List Int} (h34 : (readP b).1.fn = 3 ∨ (readP b).1.fn = 4) : (readP b).1.regs = [] := by
 unfold readP at h34 ⊢
 by_cases h1 : b.length = 0 ∨ 253 < b.length
 ·rw [if_pos h1]; rfl
 rw [if_neg h1] at h34 ⊢
 cases hq : limP (b.getD 0 0) with
 | none => rfl
 | some q =>
  rw [hq] at h34
  dsimp only at h34 ⊢
  cases ha : parseP b with
  | none => rfl
  | some a =>
   rw [ha] at h34
   dsimp only at h34 ⊢
   by_cases hm : mayP a = true
   ·rw [if_pos hm] at h34 ⊢
    dsimp only at h34 ⊢
    unfold parseP at ha
    dsimp only at ha
    repeat' split at ha
    all_goals first
     | (cases ha; done)
     | (cases ha; rfl)
     | (cases ha; exfalso; revert h34; simp; done)
   ·rw [if_neg hm]; rfl
theorem answer_facts {a : AskP} {r : RepP} {b : List Int} (h34 : a.fn = 3 ∨ a.fn = 4) (hr : Reg16 r.regs) (hc : r.code = 0) (h : answerP a r = some b) : Byte8 b ∧ b.length ≤ 252 := by
 unfold answerP at h
 split at h
 ·cases h
 rename_i hm
 rw [if_neg (by omega)] at h
 split at h
 ·cases h
 rename_i hl
 rw [if_neg (by omega), if_neg (by omega), if_neg (by omega)] at h
 cases h
 have hw : wantR a = a.count := by unfold wantR; rw [if_pos (by omega)]
 have hm : mayP a = true := by cases e : mayP a <;> simp_all
 have hl2 : (r.regs.length : Int) = a.count := by omega
 have hmc : a.count ≤ 125 := by
  unfold mayP limitsP limP at hm
  rw [if_neg (by omega), if_pos h34] at hm
  simp only [fitP, Bool.and_eq_true, decide_eq_true_eq] at hm
  omega
 refine ⟨fun y hy => ?_, ?_⟩
 ·simp only [List.mem_cons] at hy
  rcases hy with rfl | rfl | hy
  ·omega
  ·omega
  ·exact byte8_twos hr y hy
 ·simp only [List.length_cons, twosI_len]
  omega
theorem right_any (A : Option Addr) (n c : Nat) (req : List Int) (R : Option Addr) (nr cr : Nat) (regs : List Int) (unit : Int) (w : World) (hT : LimT w) (hS : SlI w w.heap.size .u8 A n c req) (hn : n ≤ 1000) (h8 : Byte8 req) (hR : SlI w w.heap.size .u16 R nr cr regs) (hr : Reg16 regs) (hnr : nr ≤ 1000) :
  Calls Tryd.prog 52 #[.slice A n c, .slice R nr cr, .int .i64 unit] w (OwnPost w (rightP req regs unit)) := by
 have H1 := Lib.hid (rread_any A n c req w hS (by omega) h8)
 have HT := Lib.hid (fun (V : World) (h : Below w.heap.size w V) => hT.up h)
 have HR := Lib.hid (fun (V : World) (h : Below w.heap.size w V) => hR.up h)
 clear hS hT hR
 go_in
 go_wp2_with fail
 refine H1.out.mono ?_
 rintro e w1 ⟨A1, n1, c1, rfl, s1, b1⟩
 cases hq : readR req with
 | none =>
  have he : rightP req regs unit = [] := by unfold rightP; rw [hq]
  have HE := Lib.hid he
  rw [hq] at s1
  clear s1 he
  go_wp2_with fail
  go_ret
  rw [HE.out]
  exact ⟨_, 0, rfl, World.ownsRow_nil _ _ _ _, b1.alloc b1.size _⟩
 | some q =>
  obtain ⟨u, pdu⟩ := q
  obtain ⟨hu, hp8, hp1, hp2⟩ := readR_facts h8 hq
  have HQ := Lib.hid hq
  rw [hq] at s1
  have s1 : SlI w1 w1.heap.size .u8 A1 n1 c1 pdu := s1
  obtain ⟨w2, hw2⟩ : ∃ Y : World, w1.alloc (.cells #[.int .i64 u, .slice A1 n1 c1] 64) = Y := ⟨_, rfl⟩
  have b2 : Below w.heap.size w w2 := by rw [← hw2]; exact b1.alloc b1.size _
  have F2 := zH1 hw2
  have s2 : SlI w2 w2.heap.size .u8 A1 n1 c1 pdu := by rw [← hw2]; exact s1.alloc _
  have H3 := Lib.hid (read_own A1 n1 c1 pdu w2 (HT.out w2 b2) s2 hp8)
  have k0 : w2.cell? ⟨w1.heap.size, 0, none⟩ = some (.int .i64 u) := F2.cell 0
  have k1 : w2.cell? ⟨w1.heap.size, 1, none⟩ = some (.slice A1 n1 c1) := F2.cell 1
  have HB2 := Lib.hid b2
  have HF2 := Lib.hid F2
  clear s1 b1 b2 F2 s2 hq
  by_cases hu0 : u = 0
  ·have he : rightP req regs unit = [] := by unfold rightP; rw [HQ.out]; dsimp only; rw [if_pos hu0]
   have HE := Lib.hid he
   have hb : (u == 0) = true := by simp [hu0]
   clear he hu0
   go_wp2_with fail
   go_ret
   rw [HE.out]
   exact ⟨_, 0, rfl, World.ownsRow_nil _ _ _ _, HB2.out⟩
  ·have hb : (u == 0) = false := by simp [hu0]
   have he : rightP req regs unit = if (readP pdu).2.2 ≠ 0 ∨ ((readP pdu).1.fn ≠ 3 ∧ (readP pdu).1.fn ≠ 4) then [] else
     match answerP (readP pdu).1 ⟨(readP pdu).1.fn, 0, [], regs⟩ with
     | none => []
     | some b => (rtuB (if unit < 0 then u else unit) b).getD [] := by unfold rightP; rw [HQ.out]; dsimp only; rw [if_neg hu0]
   have HE := Lib.hid he
   have HN := Lib.hid (@readP_facts pdu)
   clear he hu0
   obtain ⟨rp, hrp⟩ : ∃ q, readP pdu = q := ⟨_, rfl⟩
   rw [hrp] at HE HN H3
   clear hrp
   obtain ⟨⟨fn, addr, count, to, bits, aregs⟩, ex, er⟩ := rp
   dsimp only at HE HN
   go_wp2_with fail
   refine H3.out.mono ?_
   rintro e w3 ⟨v, rfl, ⟨Ab, nb, cb, Ar, nar, car, rfl, sb, sr⟩, b3⟩
   dsimp only at sb sr
   obtain ⟨w4, hw4⟩ : ∃ Y : World, w3.alloc (.cells #[.int .i64 fn, .int .i64 addr, .int .i64 count, .int .i64 to, .slice Ab nb cb, .slice Ar nar car] 59) = Y := ⟨_, rfl⟩
   have b24 : Below w2.heap.size w2 w4 := by rw [← hw4]; exact b3.alloc b3.size _
   have Q4 := zH1 hw4
   have b34 := zB1 hw4
   have bw4 : Below w.heap.size w w4 := HB2.out.trans (b24.mono HB2.out.size)
   obtain ⟨q0, q1, q2, q3, q4, q5⟩ := zC6 Q4
   have HA4 := Lib.hid (show AskAt w4 (.agg #[.int .i64 fn, .int .i64 addr, .int .i64 count, .int .i64 to, .slice Ab nb cb, .slice Ar nar car]) ⟨fn, addr, count, to, bits, aregs⟩ from ⟨_, _, _, _, _, _, rfl, sb.up b34, sr.up b34⟩)
   have HR4 := Lib.hid (show RepAt w4 (.agg #[.int .i64 fn, .int .i64 0, .slice none 0 0, .slice R nr cr]) ⟨fn, 0, [], regs⟩ from ⟨none, 0, 0, R, nr, cr, rfl, SlB.nil _ _, HR.out w4 bw4⟩)
   have HF4 := Lib.hid (HF2.out.below b24 HF2.out.lt)
   have HB4 := Lib.hid bw4
   clear sb sr b3 b24 b34 bw4 k0 k1 Q4
   have hend : rightP req regs unit = [] → OwnPost w (rightP req regs unit) (.returned (.slice none 0 0)) w4 := fun h => by
    rw [h]; exact ⟨_, 0, rfl, World.ownsRow_nil _ _ _ _, HB4.out⟩
   have Hend := Lib.hid hend
   clear hend
   by_cases he : er = 0
   ·by_cases hf : fn = 3 ∨ fn = 4
    ·have hu1 := HE.out
     rw [if_neg (by omega)] at hu1
     have HE := Lib.hid hu1
     have HN2 := Lib.hid (HN.out hf)
     have HF := Lib.hid hf
     have h0 : (er != 0) = false := by simp [he]
     clear hu1 he
     have H5 := Lib.hid (answer_own _ _ ⟨fn, addr, count, to, bits, aregs⟩ ⟨fn, 0, [], regs⟩ w4 (HT.out w4 HB4.out) HA4.out HR4.out (by rw [HN2.out]; intro x hx; cases hx) hr (by simp) (by dsimp only; have := (HR.out w4 HB4.out).1; omega) hf)
     clear hf
     by_cases hun : unit < 0
     all_goals rcases HF.out with rfl | rfl
     all_goals
      go_wp2_with fail
      refine H5.out.mono ?_
      rintro e w5 ⟨A5, n5, c5, rfl, s5, b5⟩
      cases hans : answerP ⟨_, addr, count, to, bits, aregs⟩ ⟨_, 0, [], regs⟩ with
      | none =>
       have hz : rightP req regs unit = [] := by rw [HE.out, hans]
       have HZ := Lib.hid hz
       have HB5 := Lib.hid (HB4.out.trans (b5.mono HB4.out.size))
       rw [hans] at s5
       clear s5 b5 hz hans
       unfold errV
       go_wp2_with fail
       go_ret
       rw [HZ.out]
       exact ⟨_, 0, rfl, World.ownsRow_nil _ _ _ _, HB5.out⟩
      | some bb =>
       rw [hans] at s5
       have hbf := answer_facts (by simp) hr rfl hans
       have hz : rightP req regs unit = (rtuB (if unit < 0 then u else unit) bb).getD [] := by rw [HE.out, hans]
       have F5 := HF4.out.below b5 (by have := HF4.out.lt; omega)
       have k0 : w5.cell? ⟨w1.heap.size, 0, none⟩ = some (.int .i64 u) := F5.cell 0
       have HB5 := Lib.hid (HB4.out.trans (b5.mono HB4.out.size))
       have H6 := Lib.hid (fun k => rtufo_any k A5 n5 c5 bb w5 s5 hbf.1)
       have HZ := Lib.hid hz
       clear s5 b5 hz hbf hans F5
       unfold errV
       go_wp2_with fail
       refine (H6.out _).mono ?_
       rintro e w6 ⟨v6, n6, rfl, o6, b6⟩
       have HO6 := Lib.hid (And.intro o6 b6)
       clear o6 b6
       first | rw [if_pos hun] at HZ | rw [if_neg (by omega)] at HZ
       first
       | (obtain ⟨z, hz⟩ : ∃ z : Int, (if (rtuB u bb).isSome then (0 : Int) else 200) = z := ⟨_, rfl⟩; rw [hz])
       | (obtain ⟨z, hz⟩ : ∃ z : Int, (if (rtuB unit bb).isSome then (0 : Int) else 200) = z := ⟨_, rfl⟩; rw [hz])
       clear hz
       go_wp2_with fail
       go_ret
       unfold OwnPost
       rw [HZ.out]
       exact ⟨v6, n6, rfl, owns_low HO6.out.1 HB5.out.size, HB5.out.trans (HO6.out.2.mono HB5.out.size)⟩
    ·have h0 : (er != 0) = false := by simp [he]
     have h3 : (fn != 3) = true := by simp; omega
     have h4 : (fn != 4) = true := by simp; omega
     have h3' : ¬ fn = 3 := by omega
     have hz := HE.out
     rw [if_pos (.inr (by omega))] at hz
     have HZ := Lib.hid hz
     clear hz hf he
     go_wp2_with fail
     go_ret
     exact Hend.out HZ.out
   ·have h0 : (er != 0) = true := by simp [he]
    have hz := HE.out
    rw [if_pos (.inl he)] at hz
    have HZ := Lib.hid hz
    clear hz he
    go_wp2_with fail
    go_ret
    exact Hend.out HZ.out
end Go.Proofs.YtcipleanckeoaaaDoor
