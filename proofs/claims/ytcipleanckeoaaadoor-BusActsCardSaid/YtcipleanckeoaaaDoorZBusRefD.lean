/- The right bytes: the document's. -/
import Derived.Test.YtcipleanckeoaaaDoorZTk
import Derived.Test.YtcipleanckeoaaaDoorZBusRight
import Derived.Test.YtcipleanckeoaaaDoorZBusRefC
import Derived.Test.YtcipleanckeoaaaDoorZPduReadRef
import Derived.Test.YtcipleanckeoaaaDoorZPduRefAnswer
import Derived.Deep.Cut
namespace Go.Proofs.YtcipleanckeoaaaDoor
open Go.RowKit
attribute [local go_sem] Oper.semAt_some
set_option linter.unusedVariables false
set_option linter.unusedSimpArgs false
set_option maxRecDepth 100000
theorem SlI.fr8 {W : World} {A : Option Addr} {n c : Nat} {xs : List Int} {g : Nat} {T : TypeId} {z : Int} {v : Value} (h : SlI W W.heap.size .u8 A n c xs) (hF : Held W g T #[.int .i64 z, v]) (hv : ∀ x, v ≠ .int .u8 x) (a b : Value) :
  SlI ((W.setCell ⟨g, 0, none⟩ a).setCell ⟨g, 1, none⟩ b) ((W.setCell ⟨g, 0, none⟩ a).setCell ⟨g, 1, none⟩ b).heap.size .u8 A n c xs := by
 refine ⟨h.1, h.2.1, h.2.2.1, h.2.2.2.1, fun hn => ?_⟩
 obtain ⟨gb, off, ea, hlt, hc⟩ := h.2.2.2.2 hn
 have hne : g ≠ gb := fun e => by
  have h0 : 0 < xs.length := hn
  obtain ⟨x, hx⟩ : ∃ x, xs[0]? = some x := ⟨_, List.getElem?_eq_getElem h0⟩
  have q := hc 0 x hx
  rw [← e] at q
  have q2 := hF.cell (off + 0)
  rw [q] at q2
  have : off + 0 = 0 ∨ off + 0 = 1 := by
   have := (Array.getElem?_eq_some_iff.1 q2.symm).1
   simp at this
   omega
  rcases this with h | h
  ·rw [h] at q2; simp at q2
  ·rw [h] at q2; simp at q2; exact hv _ q2.symm
 refine ⟨gb, off, ea, by simpa using hlt, fun i x hx => ?_⟩
 exact (World.cell?_setCell_other _ _ _ _ (by intro e; injection e with e1 e2; exact hne e1)).trans ((World.cell?_setCell_other _ _ _ _ (by intro e; injection e with e1 e2; exact hne e1)).trans (hc i x hx))
def FrPost (w : World) (o : Option (Int × List Int)) (e : Ending) (w' : World) : Prop := ∃ A m c, e = .returned (.tuple #[.agg #[.int .i64 (o.getD (0, [])).1, .slice A m c], .bool (o.isSome && ((o.getD (0, [])).1 != 0))]) ∧ SlI w' w'.heap.size .u8 A m c (o.getD (0, [])).2 ∧ Below w.heap.size w w'
set_option maxHeartbeats 4000000 in
theorem rframe_any (A : Option Addr) (n c : Nat) (b : List Int) (w : World) (hS : SlI w w.heap.size .u8 A n c b) (h8 : Byte8 b) :
  Calls Tryd.prog 59 #[.slice A n c] w (FrPost w (readR b)) := by
 obtain ⟨w0, hw0⟩ : ∃ Y : World, w.alloc (.cells #[.int .i64 0, .slice none 0 0] 64) = Y := ⟨_, rfl⟩
 have b0 : Below w.heap.size w w0 := by rw [← hw0]; exact (Below.refl _ w).alloc (Nat.le_refl _) _
 have hF0 : Held w0 w.heap.size 64 #[.int .i64 0, .slice none 0 0] := by rw [← hw0]; exact Held.new w _ _
 have H := Lib.hid (dread_any A n c b w0 (hS.up b0) h8)
 have HF0 := Lib.hid hF0
 have HB0 := Lib.hid b0
 clear hS hF0 b0
 go_in
 go_wp2_with fail
 refine H.out.mono ?_
 rintro e w1 ⟨A1, m1, c1, rfl, s1, b1⟩
 obtain ⟨u, hu⟩ : ∃ z, ((readR b).getD (0, [])).1 = z := ⟨_, rfl⟩
 obtain ⟨pd, hpd⟩ : ∃ z, ((readR b).getD (0, [])).2 = z := ⟨_, rfl⟩
 obtain ⟨is, his⟩ : ∃ z, (readR b).isSome = z := ⟨_, rfl⟩
 rw [hpd] at s1
 rw [hu, his]
 have HE : Hid (FrPost w (readR b) = fun e w' => ∃ A m c, e = .returned (.tuple #[.agg #[.int .i64 u, .slice A m c], .bool (is && (u != 0))]) ∧ SlI w' w'.heap.size .u8 A m c pd ∧ Below w.heap.size w w') := Lib.hid (by funext e w'; unfold FrPost; rw [hu, hpd, his])
 clear hu hpd his
 obtain ⟨w2, hw2⟩ : ∃ Y : World, w1.alloc (.cells #[.int .i64 u, .slice A1 m1 c1] 64) = Y := ⟨_, rfl⟩
 have b02 : Below w0.heap.size w0 w2 := by rw [← hw2]; exact b1.alloc b1.size _
 have s2 : SlI w2 w2.heap.size .u8 A1 m1 c1 pd := by rw [← hw2]; exact s1.alloc _
 have hX2 : Held w2 w1.heap.size 64 #[.int .i64 u, .slice A1 m1 c1] := by rw [← hw2]; exact Held.new w1 _ _
 have hF2 := HF0.out.below b02 HF0.out.lt
 have f0 : w2.cell? ⟨w.heap.size, 0, none⟩ = some (.int .i64 0) := hF2.cell 0
 have f1 : w2.cell? ⟨w.heap.size, 1, none⟩ = some (.slice none 0 0) := hF2.cell 1
 have ff0 := hF2.frozen 0
 have ff1 := hF2.frozen 1
 have x0 : w2.cell? ⟨w1.heap.size, 0, none⟩ = some (.int .i64 u) := hX2.cell 0
 have x1 : w2.cell? ⟨w1.heap.size, 1, none⟩ = some (.slice A1 m1 c1) := hX2.cell 1
 have hl1 := hF2.lt
 have hl2 := hX2.lt
 have hne : w.heap.size ≠ w1.heap.size := by have := HF0.out.lt; have := b1.size; omega
 have HF2 := Lib.hid hF2
 have HB2 := Lib.hid (HB0.out.trans (b02.mono HB0.out.size))
 have HS2 := Lib.hid (s2.fr8 hF2 (fun x e => by cases e) (.int .i64 u) (.slice A1 m1 c1))
 clear s1 b1 b02 s2 hX2 hF2
 cases is with
 | false =>
  go_upto_region 2 with fail
  go_region
  go_wp2
  refine bodyPost_ret (results_cellT rfl _ _ _ _ _ (.bool false) _ (by kernel_rfl) (by kernel_rfl) ((rset2 HF2.out (.int .i64 u) (.slice A1 m1 c1)).drew) Tryd.underlying64 (by kernel_rfl) (by kernel_rfl)) rfl ?_
  rw [HE.out]
  exact ⟨_, _, _, rfl, HS2.out.drewN 1, ((HB2.out.setCell (p := ⟨w.heap.size, 0, none⟩) (Nat.le_refl _) _).setCell (p := ⟨w.heap.size, 1, none⟩) (Nat.le_refl _) _).drew⟩
 | true =>
  by_cases hu0 : u = 0
  ·subst hu0
   go_upto_region 2 with fail
   go_region
   go_wp2
   refine bodyPost_ret (results_cellT rfl _ _ _ _ _ (.bool false) _ (by kernel_rfl) (by kernel_rfl) ((rset2 HF2.out (.int .i64 0) (.slice A1 m1 c1)).drew) Tryd.underlying64 (by kernel_rfl) (by kernel_rfl)) rfl ?_
   rw [HE.out]
   exact ⟨_, _, _, rfl, HS2.out.drewN 1, ((HB2.out.setCell (p := ⟨w.heap.size, 0, none⟩) (Nat.le_refl _) _).setCell (p := ⟨w.heap.size, 1, none⟩) (Nat.le_refl _) _).drew⟩
  ·have hb : (u != 0) = true := by simp [hu0]
   rw [hb] at HE
   go_upto_region 2 with fail
   go_region
   go_wp2
   refine bodyPost_ret (results_cellT rfl _ _ _ _ _ (.bool true) _ (by kernel_rfl) (by kernel_rfl) ((rset2 HF2.out (.int .i64 u) (.slice A1 m1 c1)).drew) Tryd.underlying64 (by kernel_rfl) (by kernel_rfl)) rfl ?_
   rw [HE.out]
   exact ⟨_, _, _, rfl, HS2.out.drewN 1, ((HB2.out.setCell (p := ⟨w.heap.size, 0, none⟩) (Nat.le_refl _) _).setCell (p := ⟨w.heap.size, 1, none⟩) (Nat.le_refl _) _).drew⟩
theorem rtuB_nil (k : Int) : rtuB k [] = none := by unfold rtuB; rw [if_neg (by simp)]
set_option maxHeartbeats 4000000 in
theorem rright_any (A : Option Addr) (n c : Nat) (req : List Int) (R : Option Addr) (nr cr : Nat) (regs : List Int) (unit : Int) (w : World) (hS : SlI w w.heap.size .u8 A n c req) (h8 : Byte8 req) (hR : SlI w w.heap.size .u16 R nr cr regs) (hr : Reg16 regs) :
  Calls Tryd.prog 58 #[.slice A n c, .slice R nr cr, .int .i64 unit] w (SlPost w (rightP req regs unit)) := by
 have H1 := Lib.hid (rframe_any A n c req w hS h8)
 have HR := Lib.hid (fun (V : World) (h : Below w.heap.size w V) => hR.up h)
 have hrl := hR.1
 clear hS hR
 go_in
 go_wp2_with fail
 refine H1.out.mono ?_
 rintro e w1 ⟨A1, n1, c1, rfl, s1, b1⟩
 obtain ⟨w2, hw2⟩ : ∃ Y : World, w1.alloc (.cells #[.int .i64 ((readR req).getD (0, [])).1, .slice A1 n1 c1] 64) = Y := ⟨_, rfl⟩
 have b2 : Below w.heap.size w w2 := by rw [← hw2]; exact b1.alloc b1.size _
 have F2 : Held w2 w1.heap.size 64 #[.int .i64 ((readR req).getD (0, [])).1, .slice A1 n1 c1] := by rw [← hw2]; exact Held.new w1 _ _
 have s2 : SlI w2 w2.heap.size .u8 A1 n1 c1 ((readR req).getD (0, [])).2 := by rw [← hw2]; exact s1.alloc _
 cases hq : (readR req).isSome && (((readR req).getD (0, [])).1 != 0) with
 | false =>
  have he : rightP req regs unit = [] := by
   unfold rightP
   cases hx : readR req with
   | none => rfl
   | some q => rw [hx] at hq; dsimp only; rw [if_pos (by simpa using hq)]
  have HE := Lib.hid he
  have HB := Lib.hid b2
  clear s1 b1 b2 F2 s2 hq he
  go_wp2_with fail
  go_ret
  unfold SlPost
  rw [HE.out]
  exact ⟨none, 0, 0, rfl, SlI.nil _ _ _, HB.out⟩
 | true =>
  obtain ⟨u, pdu, hx⟩ : ∃ u pdu, readR req = some (u, pdu) := by
   cases hx : readR req with
   | none => rw [hx] at hq; simp at hq
   | some q => exact ⟨q.1, q.2, rfl⟩
  rw [hx] at hq s2 F2 hw2
  have hu0 : ¬ u = 0 := by simpa using hq
  have s2 : SlI w2 w2.heap.size .u8 A1 n1 c1 pdu := s2
  have F2 : Held w2 w1.heap.size 64 #[.int .i64 u, .slice A1 n1 c1] := F2
  have hw2 : w1.alloc (.cells #[.int .i64 u, .slice A1 n1 c1] 64) = w2 := hw2
  obtain ⟨hu, hp8, hp1, hp2⟩ := readR_facts h8 hx
  have H3 := Lib.hid (read_ref A1 n1 c1 pdu w2 s2 hp8)
  have k0 : w2.cell? ⟨w1.heap.size, 0, none⟩ = some (.int .i64 u) := F2.cell 0
  have k1 : w2.cell? ⟨w1.heap.size, 1, none⟩ = some (.slice A1 n1 c1) := F2.cell 1
  have HB2 := Lib.hid b2
  have HF2 := Lib.hid F2
  have he : rightP req regs unit = if (readP pdu).2.2 ≠ 0 ∨ ((readP pdu).1.fn ≠ 3 ∧ (readP pdu).1.fn ≠ 4) then [] else
    match answerP (readP pdu).1 ⟨(readP pdu).1.fn, 0, [], regs⟩ with
    | none => []
    | some b => (rtuB (if unit < 0 then u else unit) b).getD [] := by unfold rightP; rw [hx]; exact if_neg hu0
  have HE := Lib.hid he
  have HN := Lib.hid (@readP_facts pdu)
  have hx1 : ((readR req).getD (0, [])).1 = u := by rw [hx]; rfl
  rw [hx1]
  clear he hu0 s1 b1 b2 F2 s2 hx hx1 hq
  obtain ⟨rp, hrp⟩ : ∃ q, readP pdu = q := ⟨_, rfl⟩
  rw [hrp] at HE HN H3
  clear hrp
  obtain ⟨⟨fn, addr, count, to, bits, aregs⟩, ex, er⟩ := rp
  dsimp only at HE HN
  go_wp2_with fail
  refine H3.out.mono ?_
  rintro e w3 ⟨v, rfl, ⟨Ab, nb, cb, Ar, nar, car, rfl, sb, sr⟩, b3⟩
  dsimp only at sb sr
  obtain ⟨w4, hw4⟩ : ∃ Y : World, w3.alloc (.cells #[.int .i64 fn, .int .i64 addr, .int .i64 count, .int .i64 to, .slice Ab nb cb, .slice Ar nar car] 59) = Y := ⟨_, rfl⟩
  have b24 : Below w2.heap.size w2 w4 := by rw [← hw4]; exact b3.alloc b3.size _
  have Q4 : Held w4 w3.heap.size 59 #[.int .i64 fn, .int .i64 addr, .int .i64 count, .int .i64 to, .slice Ab nb cb, .slice Ar nar car] := by rw [← hw4]; exact Held.new w3 _ _
  have b34 : Below w3.heap.size w3 w4 := by rw [← hw4]; exact (Below.refl _ w3).alloc (Nat.le_refl _) _
  have bw4 : Below w.heap.size w w4 := HB2.out.trans (b24.mono HB2.out.size)
  obtain ⟨q0, q1, q2, q3, q4, q5⟩ := zC6 Q4
  have HA4 := Lib.hid (show AskAt w4 (.agg #[.int .i64 fn, .int .i64 addr, .int .i64 count, .int .i64 to, .slice Ab nb cb, .slice Ar nar car]) ⟨fn, addr, count, to, bits, aregs⟩ from ⟨_, _, _, _, _, _, rfl, sb.up b34, sr.up b34⟩)
  have HR4 := Lib.hid (show RepAt w4 (.agg #[.int .i64 fn, .int .i64 0, .slice none 0 0, .slice R nr cr]) ⟨fn, 0, [], regs⟩ from ⟨none, 0, 0, R, nr, cr, rfl, SlB.nil _ _, HR.out w4 bw4⟩)
  have HF4 := Lib.hid (HF2.out.below b24 HF2.out.lt)
  have HB4 := Lib.hid bw4
  clear sb sr b3 b24 b34 bw4 k0 k1 Q4
  have hend : rightP req regs unit = [] → SlPost w (rightP req regs unit) (.returned (.slice none 0 0)) w4 := fun h => by
   rw [h]; exact ⟨none, 0, 0, rfl, SlI.nil _ _ _, HB4.out⟩
  have Hend := Lib.hid hend
  clear hend
  by_cases he : er = 0
  ·by_cases hf : fn = 3 ∨ fn = 4
   ·have hu1 := HE.out
    rw [if_neg (by omega)] at hu1
    have HE2 := Lib.hid hu1
    clear HE
    have HN2 := Lib.hid (HN.out hf)
    have HF := Lib.hid hf
    have h0 : (er != 0) = false := by simp [he]
    clear hu1 he
    by_cases hcn : (nr : Int) = count
    ·have H5 := Lib.hid (answer_ref _ _ ⟨fn, addr, count, to, bits, aregs⟩ ⟨fn, 0, [], regs⟩ w4 HA4.out HR4.out (by rw [HN2.out]; intro x hx; cases hx) hr hf)
     obtain ⟨o, ho⟩ : ∃ z, answerP ⟨fn, addr, count, to, bits, aregs⟩ ⟨fn, 0, [], regs⟩ = z := ⟨_, rfl⟩
     rw [ho] at H5 HE2
     have HO := Lib.hid ho
     clear ho
     have hcb : ((nr : Int) != count) = false := by simp [hcn]
     clear hf hcn
     by_cases hun : unit < 0
     all_goals rcases HF.out with rfl | rfl
     all_goals
      go_wp2_with fail
      refine H5.out.mono ?_
      rintro e w5 ⟨A5, n5, c5, rfl, s5, b5⟩
      have ho := HO.out
      have hz := HE2.out
      have h8b : Byte8 (o.getD []) := by
       cases o with
       | none => exact Byte8.nil
       | some bb => exact (answer_facts (by simp) hr rfl ho).1
      have hz2 : rightP req regs unit = (rtuB (if unit < 0 then u else unit) (o.getD [])).getD [] := by
       rw [hz]
       cases o with
       | none => rw [Option.getD_none, rtuB_nil]; rfl
       | some bb => rfl
      have F5 := HF4.out.below b5 (by have := HF4.out.lt; omega)
      have k0 : w5.cell? ⟨w1.heap.size, 0, none⟩ = some (.int .i64 u) := F5.cell 0
      have HB5 := Lib.hid (HB4.out.trans (b5.mono HB4.out.size))
      have H6 := Lib.hid (fun k => dbytes_any k A5 n5 c5 (o.getD []) w5 s5 h8b)
      have HZ := Lib.hid hz2
      clear s5 b5 hz hz2 ho h8b F5
      obtain ⟨ev, hev⟩ : ∃ z, errV o.isSome = z := ⟨_, rfl⟩
      rw [hev]
      clear hev
      go_wp2_with fail
      refine (H6.out _).mono ?_
      rintro e w6 ⟨A6, n6, c6, rfl, s6, b6, _⟩
      have HO6 := Lib.hid (And.intro s6 b6)
      clear s6 b6
      first | rw [if_pos hun] at HZ | rw [if_neg (by omega)] at HZ
      first
      | (obtain ⟨z, hz⟩ : ∃ z : Int, (if (rtuB u (o.getD [])).isSome then (0 : Int) else 200) = z := ⟨_, rfl⟩; rw [hz])
      | (obtain ⟨z, hz⟩ : ∃ z : Int, (if (rtuB unit (o.getD [])).isSome then (0 : Int) else 200) = z := ⟨_, rfl⟩; rw [hz])
      clear hz
      go_wp2_with fail
      go_ret
      unfold SlPost
      rw [HZ.out]
      exact ⟨A6, n6, c6, rfl, HO6.out.1, HB5.out.trans (HO6.out.2.mono HB5.out.size)⟩
    ·have hz : rightP req regs unit = [] := by
      have hz := HE2.out
      have hn2 : answerP ⟨fn, addr, count, to, bits, aregs⟩ ⟨fn, 0, [], regs⟩ = none := by
       have hw : wantR ⟨fn, addr, count, to, bits, aregs⟩ = count := by unfold wantR; dsimp only; rw [if_pos (by omega)]
       unfold answerP
       dsimp only
       split
       ·rfl
       ·rw [if_neg (by omega), if_pos (.inr (by rw [hw]; omega))]
      rw [hn2] at hz
      exact hz
     have HZ := Lib.hid hz
     have hcb : ((nr : Int) != count) = true := by simp [hcn]
     clear hf hcn hz
     rcases HF.out with rfl | rfl
     all_goals
      go_wp2_with fail
      go_ret
      exact Hend.out HZ.out
   ·have h0 : (er != 0) = false := by simp [he]
    have h3 : (fn != 3) = true := by simp; omega
    have h4 : (fn != 4) = true := by simp; omega
    have h3' : ¬ fn = 3 := by omega
    have hz := HE.out
    rw [if_pos (.inr (by omega))] at hz
    have HZ := Lib.hid hz
    clear hz hf he
    go_wp2_with fail
    go_ret
    exact Hend.out HZ.out
  ·have h0 : (er != 0) = true := by simp [he]
   have hz := HE.out
   rw [if_pos (.inl he)] at hz
   have HZ := Lib.hid hz
   clear hz he
   go_wp2_with fail
   go_ret
   exact Hend.out HZ.out
end Go.Proofs.YtcipleanckeoaaaDoor
