/- The document's Bytes. Printed by busrefe.py. -/
import Derived.Test.YtcipleanckeoaaaDoorYTk
import Derived.Test.YtcipleanckeoaaaDoorYBusOwn
import Derived.Test.YtcipleanckeoaaaDoorYBusMayR
import Derived.Deep.Cut
import Derived.Test.YtcipleanckeoaaaDoorYBusRight
import Derived.Test.YtcipleanckeoaaaDoorYBusRefC
import Derived.Test.YtcipleanckeoaaaDoorYPduReadRef
import Derived.Test.YtcipleanckeoaaaDoorYPduRefAnswer
set_option maxRecDepth 100000
set_option maxHeartbeats 40000000
namespace Go.Proofs.YtcipleanckeoaaaDoor
open Go.RowKit
attribute [local go_sem] Oper.semAt_some
set_option linter.unusedVariables false
set_option linter.unusedSimpArgs false
theorem SlI.fr8 {W : World} {A : Option Addr} {n c : Nat} {xs : List Int} {g : Nat} {T : TypeId} {z : Int} {v : Value} (h : SlI W W.heap.size .u8 A n c xs) (hF : Held W g T #[.int .i64 z, v]) (hv : ∀ x, v ≠ .int .u8 x) (a b : Value) :
  SlI ((W.setCell ⟨g, 0, none⟩ a).setCell ⟨g, 1, none⟩ b) ((W.setCell ⟨g, 0, none⟩ a).setCell ⟨g, 1, none⟩ b).heap.size .u8 A n c xs := by
 refine ⟨h.1, h.2.1, h.2.2.1, h.2.2.2.1, fun hn => ?_⟩
 obtain ⟨gb, off, ea, hlt, hc⟩ := h.2.2.2.2 hn
 have hne : g ≠ gb := fun e => by
  have h0 : 0 < xs.length := hn
  obtain ⟨x, hx⟩ : ∃ x, xs[0]? = some x := ⟨_, List.getElem?_eq_getElem h0⟩
  have q := hc 0 x hx
  rw [← e] at q
  have q2 := hF.cell (off + 0)
  rw [q] at q2
  have : off + 0 = 0 ∨ off + 0 = 1 := by
   have := (Array.getElem?_eq_some_iff.1 q2.symm).1
   simp at this
   omega
  rcases this with h | h
  ·rw [h] at q2; simp at q2
  ·rw [h] at q2; simp at q2; exact hv _ q2.symm
 refine ⟨gb, off, ea, by simpa using hlt, fun i x hx => ?_⟩
 exact (World.cell?_setCell_other _ _ _ _ (by intro e; injection e with e1 e2; exact hne e1)).trans ((World.cell?_setCell_other _ _ _ _ (by intro e; injection e with e1 e2; exact hne e1)).trans (hc i x hx))
def FrPost (w : World) (o : Option (Int × List Int)) (e : Ending) (w' : World) : Prop := ∃ A m c, e = .returned (.tuple #[.agg #[.int .i64 (o.getD (0, [])).1, .slice A m c], .bool (o.isSome && ((o.getD (0, [])).1 != 0))]) ∧ SlI w' w'.heap.size .u8 A m c (o.getD (0, [])).2 ∧ Below w.heap.size w w'
theorem rframe_any (A : Option Addr) (n c : Nat) (b : List Int) (w : World) (hS : SlI w w.heap.size .u8 A n c b) (h8 : Byte8 b) :
  Calls Tryd.prog 59 #[.slice A n c] w (FrPost w (readR b)) := by
 obtain ⟨w0, hw0⟩ : ∃ Y : World, w.alloc (.cells #[.int .i64 0, .slice none 0 0] 64) = Y := ⟨_, rfl⟩
 have b0 := zB1 hw0
 have hF0 := zH1 hw0
 have H := Lib.hid (dread_any A n c b w0 (hS.up b0) h8)
 have HF0 := Lib.hid hF0
 have HB0 := Lib.hid b0
 clear hS hF0 b0
 go_in
 go_wp2_with fail
 refine H.out.mono ?_
 rintro e w1 ⟨A1, m1, c1, rfl, s1, b1⟩
 obtain ⟨u, hu⟩ : ∃ z, ((readR b).getD (0, [])).1 = z := ⟨_, rfl⟩
 obtain ⟨pd, hpd⟩ : ∃ z, ((readR b).getD (0, [])).2 = z := ⟨_, rfl⟩
 obtain ⟨is, his⟩ : ∃ z, (readR b).isSome = z := ⟨_, rfl⟩
 rw [hpd] at s1
 rw [hu, his]
 have HE : Hid (FrPost w (readR b) = fun e w' => ∃ A m c, e = .returned (.tuple #[.agg #[.int .i64 u, .slice A m c], .bool (is && (u != 0))]) ∧ SlI w' w'.heap.size .u8 A m c pd ∧ Below w.heap.size w w') := Lib.hid (by funext e w'; unfold FrPost; rw [hu, hpd, his])
 clear hu hpd his
 obtain ⟨w2, hw2⟩ : ∃ Y : World, w1.alloc (.cells #[.int .i64 u, .slice A1 m1 c1] 64) = Y := ⟨_, rfl⟩
 have b02 : Below w0.heap.size w0 w2 := by rw [← hw2]; exact b1.alloc b1.size _
 have s2 : SlI w2 w2.heap.size .u8 A1 m1 c1 pd := by rw [← hw2]; exact s1.alloc _
 have hX2 := zH1 hw2
 have hF2 := HF0.out.below b02 HF0.out.lt
 have f0 : w2.cell? ⟨w.heap.size, 0, none⟩ = some (.int .i64 0) := hF2.cell 0
 have f1 : w2.cell? ⟨w.heap.size, 1, none⟩ = some (.slice none 0 0) := hF2.cell 1
 have ff0 := hF2.frozen 0
 have ff1 := hF2.frozen 1
 have x0 : w2.cell? ⟨w1.heap.size, 0, none⟩ = some (.int .i64 u) := hX2.cell 0
 have x1 : w2.cell? ⟨w1.heap.size, 1, none⟩ = some (.slice A1 m1 c1) := hX2.cell 1
 have hl1 := hF2.lt
 have hl2 := hX2.lt
 have hne : w.heap.size ≠ w1.heap.size := by have := HF0.out.lt; have := b1.size; omega
 have HF2 := Lib.hid hF2
 have HB2 := Lib.hid (HB0.out.trans (b02.mono HB0.out.size))
 have HS2 := Lib.hid (s2.fr8 hF2 (fun x e => by cases e) (.int .i64 u) (.slice A1 m1 c1))
 clear s1 b1 b02 s2 hX2 hF2
 cases is with
 | false =>
  go_upto_region 2 with fail
  go_region
  go_wp2
  refine bodyPost_ret (results_cellT rfl _ _ _ _ _ (.bool false) _ (by kernel_rfl) (by kernel_rfl) ((rset2 HF2.out (.int .i64 u) (.slice A1 m1 c1)).drew) Tryd.underlying64 (by kernel_rfl) (by kernel_rfl)) rfl ?_
  rw [HE.out]
  exact ⟨_, _, _, rfl, HS2.out.drewN 1, ((HB2.out.setCell (p := ⟨w.heap.size, 0, none⟩) (Nat.le_refl _) _).setCell (p := ⟨w.heap.size, 1, none⟩) (Nat.le_refl _) _).drew⟩
 | true =>
  by_cases hu0 : u = 0
  ·subst hu0
   go_upto_region 2 with fail
   go_region
   go_wp2
   refine bodyPost_ret (results_cellT rfl _ _ _ _ _ (.bool false) _ (by kernel_rfl) (by kernel_rfl) ((rset2 HF2.out (.int .i64 0) (.slice A1 m1 c1)).drew) Tryd.underlying64 (by kernel_rfl) (by kernel_rfl)) rfl ?_
   rw [HE.out]
   exact ⟨_, _, _, rfl, HS2.out.drewN 1, ((HB2.out.setCell (p := ⟨w.heap.size, 0, none⟩) (Nat.le_refl _) _).setCell (p := ⟨w.heap.size, 1, none⟩) (Nat.le_refl _) _).drew⟩
  ·have hb : (u != 0) = true := by simp [hu0]
   rw [hb] at HE
   go_upto_region 2 with fail
   go_region
   go_wp2
   refine bodyPost_ret (results_cellT rfl _ _ _ _ _ (.bool true) _ (by kernel_rfl) (by kernel_rfl) ((rset2 HF2.out (.int .i64 u) (.slice A1 m1 c1)).drew) Tryd.underlying64 (by kernel_rfl) (by kernel_rfl)) rfl ?_
   rw [HE.out]
   exact ⟨_, _, _, rfl, HS2.out.drewN 1, ((HB2.out.setCell (p := ⟨w.heap.size, 0, none⟩) (Nat.le_refl _) _).setCell (p := ⟨w.heap.size, 1, none⟩) (Nat.le_refl _) _).drew⟩
theorem rtuB_nil (k : Int) : rtuB k [] = none := by unfold rtuB; rw [if_neg (by simp)]
theorem rright_any (A : Option Addr) (n c : Nat) (req : List Int) (R : Option Addr) (nr cr : Nat) (regs : List Int) (unit : Int) (w : World) (hS : SlI w w.heap.size .u8 A n c req) (h8 : Byte8 req) (hR : SlI w w.heap.size .u16 R nr cr regs) (hr : Reg16 regs) :
  Calls Tryd.prog 58 #[.slice A n c, .slice R nr cr, .int .i64 unit] w (SlPost w (rightP req regs unit)) := by
 have H1 := Lib.hid (rframe_any A n c req w hS h8)
 have HR := Lib.hid (fun (V : World) (h : Below w.heap.size w V) => hR.up h)
 have hrl := hR.1
 clear hS hR
 go_in
 go_wp2_with fail
 refine H1.out.mono ?_
 rintro e w1 ⟨A1, n1, c1, rfl, s1, b1⟩
 obtain ⟨w2, hw2⟩ : ∃ Y : World, w1.alloc (.cells #[.int .i64 ((readR req).getD (0, [])).1, .slice A1 n1 c1] 64) = Y := ⟨_, rfl⟩
 have b2 : Below w.heap.size w w2 := by rw [← hw2]; exact b1.alloc b1.size _
 have F2 := zH1 hw2
 have s2 : SlI w2 w2.heap.size .u8 A1 n1 c1 ((readR req).getD (0, [])).2 := by rw [← hw2]; exact s1.alloc _
 cases hq : (readR req).isSome && (((readR req).getD (0, [])).1 != 0) with
 | false =>
  have he : rightP req regs unit = [] := by
   unfold rightP
   cases hx : readR req with
   | none => rfl
   | some q => rw [hx] at hq; dsimp only; rw [if_pos (by simpa using hq)]
  have HE := Lib.hid he
  have HB := Lib.hid b2
  clear s1 b1 b2 F2 s2 hq he
  go_wp2_with fail
  go_ret
  unfold SlPost
  rw [HE.out]
  exact ⟨none, 0, 0, rfl, SlI.nil _ _ _, HB.out⟩
 | true =>
  obtain ⟨u, pdu, hx⟩ : ∃ u pdu, readR req = some (u, pdu) := by
   cases hx : readR req with
   | none => rw [hx] at hq; simp at hq
   | some q => exact ⟨q.1, q.2, rfl⟩
  rw [hx] at hq s2 F2 hw2
  have hu0 : ¬ u = 0 := by simpa using hq
  have s2 : SlI w2 w2.heap.size .u8 A1 n1 c1 pdu := s2
  have F2 : Held w2 w1.heap.size 64 #[.int .i64 u, .slice A1 n1 c1] := F2
  have hw2 : w1.alloc (.cells #[.int .i64 u, .slice A1 n1 c1] 64) = w2 := hw2
  obtain ⟨hu, hp8, hp1, hp2⟩ := readR_facts h8 hx
  have H3 := Lib.hid (read_ref A1 n1 c1 pdu w2 s2 hp8)
  have k0 : w2.cell? ⟨w1.heap.size, 0, none⟩ = some (.int .i64 u) := F2.cell 0
  have k1 : w2.cell? ⟨w1.heap.size, 1, none⟩ = some (.slice A1 n1 c1) := F2.cell 1
  have HB2 := Lib.hid b2
  have HF2 := Lib.hid F2
  have he : rightP req regs unit = if (readP pdu).2.2 ≠ 0 ∨ ((readP pdu).1.fn ≠ 3 ∧ (readP pdu).1.fn ≠ 4) then [] else
    match answerP (readP pdu).1 ⟨(readP pdu).1.fn, 0, [], regs⟩ with
    | none => []
    | some b => (rtuB (if unit < 0 then u else unit) b).getD [] := by unfold rightP; rw [hx]; exact if_neg hu0
  have HE := Lib.hid he
  have HN := Lib.hid (@readP_facts pdu)
  have hx1 : ((readR req).getD (0, [])).1 = u := by rw [hx]; rfl
  rw [hx1]
  clear he hu0 s1 b1 b2 F2 s2 hx hx1 hq
  obtain ⟨rp, hrp⟩ : ∃ q, readP pdu = q := ⟨_, rfl⟩
  rw [hrp] at HE HN H3
  clear hrp
  obtain ⟨⟨fn, addr, count, to, bits, aregs⟩, ex, er⟩ := rp
  dsimp only at HE HN
  go_wp2_with fail
  refine H3.out.mono ?_
  rintro e w3 ⟨v, rfl, ⟨Ab, nb, cb, Ar, nar, car, rfl, sb, sr⟩, b3⟩
  dsimp only at sb sr
  obtain ⟨w4, hw4⟩ : ∃ Y : World, w3.alloc (.cells #[.int .i64 fn, .int .i64 addr, .int .i64 count, .int .i64 to, .slice Ab nb cb, .slice Ar nar car] 59) = Y := ⟨_, rfl⟩
  have b24 : Below w2.heap.size w2 w4 := by rw [← hw4]; exact b3.alloc b3.size _
  have Q4 := zH1 hw4
  have b34 := zB1 hw4
  have bw4 : Below w.heap.size w w4 := HB2.out.trans (b24.mono HB2.out.size)
  obtain ⟨q0, q1, q2, q3, q4, q5⟩ := zC6 Q4
  have HA4 := Lib.hid (show AskAt w4 (.agg #[.int .i64 fn, .int .i64 addr, .int .i64 count, .int .i64 to, .slice Ab nb cb, .slice Ar nar car]) ⟨fn, addr, count, to, bits, aregs⟩ from ⟨_, _, _, _, _, _, rfl, sb.up b34, sr.up b34⟩)
  have HR4 := Lib.hid (show RepAt w4 (.agg #[.int .i64 fn, .int .i64 0, .slice none 0 0, .slice R nr cr]) ⟨fn, 0, [], regs⟩ from ⟨none, 0, 0, R, nr, cr, rfl, SlB.nil _ _, HR.out w4 bw4⟩)
  have HF4 := Lib.hid (HF2.out.below b24 HF2.out.lt)
  have HB4 := Lib.hid bw4
  clear sb sr b3 b24 b34 bw4 k0 k1 Q4
  have hend : rightP req regs unit = [] → SlPost w (rightP req regs unit) (.returned (.slice none 0 0)) w4 := fun h => by
   rw [h]; exact ⟨none, 0, 0, rfl, SlI.nil _ _ _, HB4.out⟩
  have Hend := Lib.hid hend
  clear hend
  by_cases he : er = 0
  ·by_cases hf : fn = 3 ∨ fn = 4
   ·have hu1 := HE.out
    rw [if_neg (by omega)] at hu1
    have HE2 := Lib.hid hu1
    clear HE
    have HN2 := Lib.hid (HN.out hf)
    have HF := Lib.hid hf
    have h0 : (er != 0) = false := by simp [he]
    clear hu1 he
    by_cases hcn : (nr : Int) = count
    ·have H5 := Lib.hid (answer_ref _ _ ⟨fn, addr, count, to, bits, aregs⟩ ⟨fn, 0, [], regs⟩ w4 HA4.out HR4.out (by rw [HN2.out]; intro x hx; cases hx) hr hf)
     obtain ⟨o, ho⟩ : ∃ z, answerP ⟨fn, addr, count, to, bits, aregs⟩ ⟨fn, 0, [], regs⟩ = z := ⟨_, rfl⟩
     rw [ho] at H5 HE2
     have HO := Lib.hid ho
     clear ho
     have hcb : ((nr : Int) != count) = false := by simp [hcn]
     clear hf hcn
     by_cases hun : unit < 0
     all_goals rcases HF.out with rfl | rfl
     all_goals
      go_wp2_with fail
      refine H5.out.mono ?_
      rintro e w5 ⟨A5, n5, c5, rfl, s5, b5⟩
      have ho := HO.out
      have hz := HE2.out
      have h8b : Byte8 (o.getD []) := by
       cases o with
       | none => exact Byte8.nil
       | some bb => exact (answer_facts (by simp) hr rfl ho).1
      have hz2 : rightP req regs unit = (rtuB (if unit < 0 then u else unit) (o.getD [])).getD [] := by
       rw [hz]
       cases o with
       | none => rw [Option.getD_none, rtuB_nil]; rfl
       | some bb => rfl
      have F5 := HF4.out.below b5 (by have := HF4.out.lt; omega)
      have k0 : w5.cell? ⟨w1.heap.size, 0, none⟩ = some (.int .i64 u) := F5.cell 0
      have HB5 := Lib.hid (HB4.out.trans (b5.mono HB4.out.size))
      have H6 := Lib.hid (fun k => dbytes_any k A5 n5 c5 (o.getD []) w5 s5 h8b)
      have HZ := Lib.hid hz2
      clear s5 b5 hz hz2 ho h8b F5
      obtain ⟨ev, hev⟩ : ∃ z, errV o.isSome = z := ⟨_, rfl⟩
      rw [hev]
      clear hev
      go_wp2_with fail
      refine (H6.out _).mono ?_
      rintro e w6 ⟨A6, n6, c6, rfl, s6, b6, _⟩
      have HO6 := Lib.hid (And.intro s6 b6)
      clear s6 b6
      first | rw [if_pos hun] at HZ | rw [if_neg (by omega)] at HZ
      first
      | (obtain ⟨z, hz⟩ : ∃ z : Int, (if (rtuB u (o.getD [])).isSome then (0 : Int) else 200) = z := ⟨_, rfl⟩; rw [hz])
      | (obtain ⟨z, hz⟩ : ∃ z : Int, (if (rtuB unit (o.getD [])).isSome then (0 : Int) else 200) = z := ⟨_, rfl⟩; rw [hz])
      clear hz
      go_wp2_with fail
      go_ret
      unfold SlPost
      rw [HZ.out]
      exact ⟨A6, n6, c6, rfl, HO6.out.1, HB5.out.trans (HO6.out.2.mono HB5.out.size)⟩
    ·have hz : rightP req regs unit = [] := by
      have hz := HE2.out
      have hn2 : answerP ⟨fn, addr, count, to, bits, aregs⟩ ⟨fn, 0, [], regs⟩ = none := by
       have hw : wantR ⟨fn, addr, count, to, bits, aregs⟩ = count := by unfold wantR; dsimp only; rw [if_pos (by omega)]
       unfold answerP
       dsimp only
       split
       ·rfl
       ·rw [if_neg (by omega), if_pos (.inr (by rw [hw]; omega))]
      rw [hn2] at hz
      exact hz
     have HZ := Lib.hid hz
     have hcb : ((nr : Int) != count) = true := by simp [hcn]
     clear hf hcn hz
     rcases HF.out with rfl | rfl
     all_goals
      go_wp2_with fail
      go_ret
      exact Hend.out HZ.out
   ·have h0 : (er != 0) = false := by simp [he]
    have h3 : (fn != 3) = true := by simp; omega
    have h4 : (fn != 4) = true := by simp; omega
    have h3' : ¬ fn = 3 := by omega
    have hz := HE.out
    rw [if_pos (.inr (by omega))] at hz
    have HZ := Lib.hid hz
    clear hz hf he
    go_wp2_with fail
    go_ret
    exact Hend.out HZ.out
  ·have h0 : (er != 0) = true := by simp [he]
   have hz := HE.out
   rw [if_pos (.inl he)] at hz
   have HZ := Lib.hid hz
   clear hz he
   go_wp2_with fail
   go_ret
   exact Hend.out HZ.out
theorem SlI.of_two {V : World} {B : Nat} {a b : Int} (h : Held V B 5 #[.int .u8 a, .int .u8 b]) : SlI V V.heap.size .u8 (some ⟨B, 0, none⟩) 2 2 [a, b] := by
 refine ⟨rfl, by omega, by unfold maxLen; omega, (fun h => by cases h), fun _ => ⟨B, 0, rfl, h.lt, fun i x hx => ?_⟩⟩
 have q := h.cell (0 + i)
 rw [q, Nat.zero_add]
 match i, hx with
 | 0, hx => simp at hx; subst hx; rfl
 | 1, hx => simp at hx; subst hx; rfl
 | i + 2, hx => simp at hx
theorem rtuB_len (u : Int) (b : List Int) : ((rtuB u b).getD []).length ≤ 256 := by
 unfold rtuB
 split
 ·rename_i h
  rw [Option.getD_some, rtuL_len]
  omega
 ·simp
theorem rightP_len (req regs : List Int) (unit : Int) : (rightP req regs unit).length ≤ 256 := by
 unfold rightP
 split
 ·simp
 ·split
  ·simp
  ·split
   ·simp
   ·split
    ·simp
    ·exact rtuB_len _ _
theorem by_parts (req : List Int) (a : ActP) (hm : mayA a = true) :
  (a.kind = 7 → bytesA req a = a.data) ∧ (a.kind = 3 → bytesA req a = []) ∧ (a.kind = 6 → bytesA req a = rightP req a.regs a.unit) ∧ (a.kind = 1 → bytesA req a = rightP req a.regs (-1)) ∧
  (a.kind = 4 → bytesA req a = (rightP req a.regs (-1)).take a.n.toNat) ∧ (a.kind = 5 → bytesA req a = spoilL (rightP req a.regs (-1)) a.n a.wth) := by
 have h0 : ¬ (mayA a = false) := by rw [hm]; exact fun h => by cases h
 unfold bytesA
 rw [if_neg h0]
 clear h0 hm
 generalize a.kind = k
 refine ⟨fun h => ?_, fun h => ?_, fun h => ?_, fun h => ?_, fun h => ?_, fun h => ?_⟩
 ·rw [if_pos h]
 ·rw [if_neg (by omega), if_pos h]
 ·rw [if_neg (by omega), if_neg (by omega), if_pos h]
 ·rw [if_neg (by omega), if_neg (by omega), if_neg (by omega), if_neg (by omega), if_neg (by omega), if_neg (by omega)]
 ·rw [if_neg (by omega), if_neg (by omega), if_neg (by omega), if_neg (by omega), if_pos h]
 ·rw [if_neg (by omega), if_neg (by omega), if_neg (by omega), if_neg (by omega), if_neg (by omega), if_pos h]
theorem be_7 (req : List Int) (wait gap : Int) (regs : List Int) (code na unit wth : Int) (data : List Int) (hm : mayA ⟨7, wait, gap, regs, code, na, unit, wth, data⟩ = true) : bytesA req ⟨7, wait, gap, regs, code, na, unit, wth, data⟩ = data := (by_parts req ⟨7, wait, gap, regs, code, na, unit, wth, data⟩ hm).1 rfl
theorem be_3 (req : List Int) (wait gap : Int) (regs : List Int) (code na unit wth : Int) (data : List Int) (hm : mayA ⟨3, wait, gap, regs, code, na, unit, wth, data⟩ = true) : bytesA req ⟨3, wait, gap, regs, code, na, unit, wth, data⟩ = [] := (by_parts req ⟨3, wait, gap, regs, code, na, unit, wth, data⟩ hm).2.1 rfl
theorem be_6 (req : List Int) (wait gap : Int) (regs : List Int) (code na unit wth : Int) (data : List Int) (hm : mayA ⟨6, wait, gap, regs, code, na, unit, wth, data⟩ = true) : bytesA req ⟨6, wait, gap, regs, code, na, unit, wth, data⟩ = rightP req regs unit := (by_parts req ⟨6, wait, gap, regs, code, na, unit, wth, data⟩ hm).2.2.1 rfl
theorem be_1 (req : List Int) (wait gap : Int) (regs : List Int) (code na unit wth : Int) (data : List Int) (hm : mayA ⟨1, wait, gap, regs, code, na, unit, wth, data⟩ = true) : bytesA req ⟨1, wait, gap, regs, code, na, unit, wth, data⟩ = rightP req regs (-1) := (by_parts req ⟨1, wait, gap, regs, code, na, unit, wth, data⟩ hm).2.2.2.1 rfl
theorem be_4 (req : List Int) (wait gap : Int) (regs : List Int) (code na unit wth : Int) (data : List Int) (hm : mayA ⟨4, wait, gap, regs, code, na, unit, wth, data⟩ = true) : bytesA req ⟨4, wait, gap, regs, code, na, unit, wth, data⟩ = (rightP req regs (-1)).take na.toNat := (by_parts req ⟨4, wait, gap, regs, code, na, unit, wth, data⟩ hm).2.2.2.2.1 rfl
theorem be_5 (req : List Int) (wait gap : Int) (regs : List Int) (code na unit wth : Int) (data : List Int) (hm : mayA ⟨5, wait, gap, regs, code, na, unit, wth, data⟩ = true) : bytesA req ⟨5, wait, gap, regs, code, na, unit, wth, data⟩ = spoilL (rightP req regs (-1)) na wth := (by_parts req ⟨5, wait, gap, regs, code, na, unit, wth, data⟩ hm).2.2.2.2.2 rfl
theorem spoil_at (bs : List Int) (na wth : Int) (k : Nat) (x : Int) (hx : bs[k]? = some x) : (spoilL bs na wth)[k]? = some (if k = na.toNat % bs.length then Go.bits BinOp.xor IntKind.u8 x wth else x) := by
 unfold spoilL
 rw [List.getElem?_set]
 have hk : k < bs.length := (List.getElem?_eq_some_iff.1 hx).1
 by_cases h : na.toNat % bs.length = k
 ·rw [if_pos h, if_pos (by rw [h]; exact hk), if_pos h.symm, h, List.getD_eq_getElem?_getD, hx]; rfl
 ·rw [if_neg h, hx, if_neg (fun e => h e.symm)]
theorem spoil_len (bs : List Int) (na wth : Int) : (spoilL bs na wth).length = bs.length := by unfold spoilL; simp
theorem by_two (req : List Int) (a : ActP) (hm : mayA a = true) (h : a.kind = 2) : bytesA req a = match readR req with
  | none => []
  | some (u, pdu) => if u = 0 then [] else (rtuB u [128 + pdu.getD 0 0 % 128, a.code]).getD [] := by
 have h0 : ¬ (mayA a = false) := by rw [hm]; exact fun h => by cases h
 unfold bytesA
 rw [if_neg h0]
 clear h0 hm
 generalize a.kind = k at h ⊢
 rw [if_neg (by omega), if_neg (by omega), if_neg (by omega), if_pos h]
 cases readR req with
 | none => rfl
 | some q => rfl
theorem two_none {req : List Int} {a : ActP} (hm : mayA a = true) (h : a.kind = 2) (hq : readR req = none) : bytesA req a = [] := by rw [by_two req a hm h, hq]
theorem two_zero {req : List Int} {a : ActP} {pdu : List Int} (hm : mayA a = true) (h : a.kind = 2) (hq : readR req = some (0, pdu)) : bytesA req a = [] := by rw [by_two req a hm h, hq]; rfl
theorem two_some {req : List Int} {a : ActP} {u : Int} {pdu : List Int} (hm : mayA a = true) (h : a.kind = 2) (hq : readR req = some (u, pdu)) (hu : u ≠ 0) : bytesA req a = (rtuB u [128 + pdu.getD 0 0 % 128, a.code]).getD [] := by rw [by_two req a hm h, hq]; exact if_neg hu
theorem may_q {a : ActP} (h : mayA a = true) : mayQ a := of_decide_eq_true h
theorem rb_0 (A : Option Addr) (n c : Nat) (req : List Int) (Ar : Option Addr) (nr cr : Nat) (D : Option Addr) (nd cd : Nat) (wait gap : Int) (regs : List Int) (code na unit wth : Int) (data : List Int) (kind : Int) (w : World) (hS : SlI w w.heap.size .u8 A n c req) (hn : n ≤ 1000) (h8 : Byte8 req) (h1 : SlI w w.heap.size .u16 Ar nr cr regs) (h2 : SlI w w.heap.size .u8 D nd cd data) (hok : ActP.ok ⟨kind, wait, gap, regs, code, na, unit, wth, data⟩) (hm : mayA ⟨kind, wait, gap, regs, code, na, unit, wth, data⟩ = false) :
  Calls Tryd.prog 24 #[.slice A n c, .agg #[.int .i64 kind, .int .i64 wait, .int .i64 gap, .slice Ar nr cr, .int .i64 code, .int .i64 na, .int .i64 unit, .int .u8 wth, .slice D nd cd]] w (SlPost w (bytesA req ⟨kind, wait, gap, regs, code, na, unit, wth, data⟩)) := by
 obtain ⟨w1, hw1⟩ : ∃ W, w.alloc (.cells #[.int .i64 kind, .int .i64 wait, .int .i64 gap, .slice Ar nr cr, .int .i64 code, .int .i64 na, .int .i64 unit, .int .u8 wth, .slice D nd cd] 29) = W := ⟨_, rfl⟩
 have b1 := zB1 hw1
 have hX1 := zH1 hw1
 have HC := Lib.hid (rmay_any (.agg #[.int .i64 kind, .int .i64 wait, .int .i64 gap, .slice Ar nr cr, .int .i64 code, .int .i64 na, .int .i64 unit, .int .u8 wth, .slice D nd cd]) ⟨kind, wait, gap, regs, code, na, unit, wth, data⟩ w1 ⟨Ar, nr, cr, D, nd, cd, rfl, h1.up b1, h2.up b1⟩ hok)
 rw [hm] at HC
 have HX1 := Lib.hid hX1
 have HB1 := Lib.hid b1
 have HS := Lib.hid (fun (V : World) (h : Below w.heap.size w V) => hS.up h)
 have HRG := Lib.hid (fun (V : World) (h : Below w.heap.size w V) => h1.up h)
 have HD := Lib.hid (fun (V : World) (h : Below w.heap.size w V) => h2.up h)
 have HOK := Lib.hid hok
 have H8 := Lib.hid h8
 have hrl := h1.1
 have hdl := h2.1
 obtain ⟨x0, x1, x2, x3, x4, x5, x6, x7, x8⟩ := zC9 hX1
 have HE : Hid (bytesA req ⟨kind, wait, gap, regs, code, na, unit, wth, data⟩ = []) := Lib.hid (by unfold bytesA; rw [if_pos hm])
 have HM := Lib.hid hm
 clear hX1 b1 hS h1 h2 hok h8 hm
 go_in
 go_wp2_with fail
 refine HC.out.mono ?_
 rintro e w2 ⟨rfl, b2⟩
 have hX2 := HX1.out.below b2 HX1.out.lt
 have HB2 := Lib.hid (HB1.out.trans (b2.mono HB1.out.size))
 obtain ⟨x0, -, -, x3, x4, x5, x6, x7, x8⟩ := zC9 hX2
 have HX2 := Lib.hid hX2
 clear b2 hX2
 go_wp2_with fail
 go_ret
 rw [HE.out]
 exact ⟨none, 0, 0, rfl, SlI.nil _ _ _, HB2.out⟩
theorem rb_1 (A : Option Addr) (n c : Nat) (req : List Int) (Ar : Option Addr) (nr cr : Nat) (D : Option Addr) (nd cd : Nat) (wait gap : Int) (regs : List Int) (code na unit wth : Int) (data : List Int) (w : World) (hS : SlI w w.heap.size .u8 A n c req) (hn : n ≤ 1000) (h8 : Byte8 req) (h1 : SlI w w.heap.size .u16 Ar nr cr regs) (h2 : SlI w w.heap.size .u8 D nd cd data) (hok : ActP.ok ⟨1, wait, gap, regs, code, na, unit, wth, data⟩) (hm : mayA ⟨1, wait, gap, regs, code, na, unit, wth, data⟩ = true) :
  Calls Tryd.prog 24 #[.slice A n c, .agg #[.int .i64 1, .int .i64 wait, .int .i64 gap, .slice Ar nr cr, .int .i64 code, .int .i64 na, .int .i64 unit, .int .u8 wth, .slice D nd cd]] w (SlPost w (bytesA req ⟨1, wait, gap, regs, code, na, unit, wth, data⟩)) := by
 obtain ⟨w1, hw1⟩ : ∃ W, w.alloc (.cells #[.int .i64 1, .int .i64 wait, .int .i64 gap, .slice Ar nr cr, .int .i64 code, .int .i64 na, .int .i64 unit, .int .u8 wth, .slice D nd cd] 29) = W := ⟨_, rfl⟩
 have b1 := zB1 hw1
 have hX1 := zH1 hw1
 have HC := Lib.hid (rmay_any (.agg #[.int .i64 1, .int .i64 wait, .int .i64 gap, .slice Ar nr cr, .int .i64 code, .int .i64 na, .int .i64 unit, .int .u8 wth, .slice D nd cd]) ⟨1, wait, gap, regs, code, na, unit, wth, data⟩ w1 ⟨Ar, nr, cr, D, nd, cd, rfl, h1.up b1, h2.up b1⟩ hok)
 rw [hm] at HC
 have HX1 := Lib.hid hX1
 have HB1 := Lib.hid b1
 have HS := Lib.hid (fun (V : World) (h : Below w.heap.size w V) => hS.up h)
 have HRG := Lib.hid (fun (V : World) (h : Below w.heap.size w V) => h1.up h)
 have HD := Lib.hid (fun (V : World) (h : Below w.heap.size w V) => h2.up h)
 have HOK := Lib.hid hok
 have H8 := Lib.hid h8
 have hrl := h1.1
 have hdl := h2.1
 obtain ⟨x0, x1, x2, x3, x4, x5, x6, x7, x8⟩ := zC9 hX1
 have HE : Hid (bytesA req ⟨1, wait, gap, regs, code, na, unit, wth, data⟩ = rightP req regs (-1)) := Lib.hid (be_1 req wait gap regs code na unit wth data hm)
 have HM := Lib.hid hm
 clear hX1 b1 hS h1 h2 hok h8 hm
 go_in
 go_wp2_with fail
 refine HC.out.mono ?_
 rintro e w2 ⟨rfl, b2⟩
 have hX2 := HX1.out.below b2 HX1.out.lt
 have HB2 := Lib.hid (HB1.out.trans (b2.mono HB1.out.size))
 obtain ⟨x0, -, -, x3, x4, x5, x6, x7, x8⟩ := zC9 hX2
 have HX2 := Lib.hid hX2
 clear b2 hX2
 have H7 := Lib.hid (rright_any A n c req Ar nr cr regs (-1) w2 (HS.out w2 HB2.out) H8.out (HRG.out w2 HB2.out) HOK.out.2.2.2.1)
 go_wp2_with fail
 refine H7.out.mono ?_
 rintro e w3 ⟨A3, n3, c3, rfl, s3, b3⟩
 have HO := Lib.hid (And.intro s3 b3)
 clear s3 b3
 go_wp2_with fail
 go_ret
 rw [HE.out]
 exact ⟨A3, n3, c3, rfl, HO.out.1, HB2.out.trans (HO.out.2.mono HB2.out.size)⟩
theorem rb_2 (A : Option Addr) (n c : Nat) (req : List Int) (Ar : Option Addr) (nr cr : Nat) (D : Option Addr) (nd cd : Nat) (wait gap : Int) (regs : List Int) (code na unit wth : Int) (data : List Int) (w : World) (hS : SlI w w.heap.size .u8 A n c req) (hn : n ≤ 1000) (h8 : Byte8 req) (h1 : SlI w w.heap.size .u16 Ar nr cr regs) (h2 : SlI w w.heap.size .u8 D nd cd data) (hok : ActP.ok ⟨2, wait, gap, regs, code, na, unit, wth, data⟩) (hm : mayA ⟨2, wait, gap, regs, code, na, unit, wth, data⟩ = true) :
  Calls Tryd.prog 24 #[.slice A n c, .agg #[.int .i64 2, .int .i64 wait, .int .i64 gap, .slice Ar nr cr, .int .i64 code, .int .i64 na, .int .i64 unit, .int .u8 wth, .slice D nd cd]] w (SlPost w (bytesA req ⟨2, wait, gap, regs, code, na, unit, wth, data⟩)) := by
 obtain ⟨w1, hw1⟩ : ∃ W, w.alloc (.cells #[.int .i64 2, .int .i64 wait, .int .i64 gap, .slice Ar nr cr, .int .i64 code, .int .i64 na, .int .i64 unit, .int .u8 wth, .slice D nd cd] 29) = W := ⟨_, rfl⟩
 have b1 := zB1 hw1
 have hX1 := zH1 hw1
 have HC := Lib.hid (rmay_any (.agg #[.int .i64 2, .int .i64 wait, .int .i64 gap, .slice Ar nr cr, .int .i64 code, .int .i64 na, .int .i64 unit, .int .u8 wth, .slice D nd cd]) ⟨2, wait, gap, regs, code, na, unit, wth, data⟩ w1 ⟨Ar, nr, cr, D, nd, cd, rfl, h1.up b1, h2.up b1⟩ hok)
 rw [hm] at HC
 have HX1 := Lib.hid hX1
 have HB1 := Lib.hid b1
 have HS := Lib.hid (fun (V : World) (h : Below w.heap.size w V) => hS.up h)
 have HRG := Lib.hid (fun (V : World) (h : Below w.heap.size w V) => h1.up h)
 have HD := Lib.hid (fun (V : World) (h : Below w.heap.size w V) => h2.up h)
 have HOK := Lib.hid hok
 have H8 := Lib.hid h8
 have hrl := h1.1
 have hdl := h2.1
 obtain ⟨x0, x1, x2, x3, x4, x5, x6, x7, x8⟩ := zC9 hX1
 have HE : Hid (bytesA req ⟨2, wait, gap, regs, code, na, unit, wth, data⟩ = bytesA req ⟨2, wait, gap, regs, code, na, unit, wth, data⟩) := Lib.hid (rfl)
 have HM := Lib.hid hm
 clear hX1 b1 hS h1 h2 hok h8 hm
 go_in
 go_wp2_with fail
 refine HC.out.mono ?_
 rintro e w2 ⟨rfl, b2⟩
 have hX2 := HX1.out.below b2 HX1.out.lt
 have HB2 := Lib.hid (HB1.out.trans (b2.mono HB1.out.size))
 obtain ⟨x0, -, -, x3, x4, x5, x6, x7, x8⟩ := zC9 hX2
 have HX2 := Lib.hid hX2
 clear b2 hX2
 have hcd : 1 ≤ code ∧ code ≤ 11 := by have := may_q HM.out; unfold mayQ at this; dsimp only at this; omega
 have H7 := Lib.hid (rframe_any A n c req w2 (HS.out w2 HB2.out) H8.out)
 go_wp2_with fail
 refine H7.out.mono ?_
 rintro e w3 ⟨A3, n3, c3, rfl, s3, b3⟩
 cases hq : readR req with
 | none =>
  have HE2 := Lib.hid (two_none (a := ⟨2, wait, gap, regs, code, na, unit, wth, data⟩) HM.out rfl hq)
  have HO := Lib.hid (HB2.out.trans (b3.mono HB2.out.size))
  rw [hq] at s3
  have hb : (Option.isSome (none : Option (Int × List Int)) && (((none : Option (Int × List Int)).getD (0, [])).1 != 0)) = false := rfl
  rw [hb]
  clear s3 b3 hq
  go_wp2_with fail
  go_ret
  rw [HE2.out]
  exact ⟨none, 0, 0, rfl, SlI.nil _ _ _, HO.out.alloc HO.out.size _⟩
 | some q =>
  obtain ⟨u, pdu⟩ := q
  obtain ⟨hu, hp8, hp1, hp2⟩ := readR_facts H8.out hq
  rw [hq] at s3
  have s3 : SlI w3 w3.heap.size .u8 A3 n3 c3 pdu := s3
  obtain ⟨w4, hw4⟩ : ∃ Y : World, w3.alloc (.cells #[.int .i64 u, .slice A3 n3 c3] 64) = Y := ⟨_, rfl⟩
  have b34 := zB1 hw4
  have F4 := zH1 hw4
  have b24 := b3.trans (b34.mono b3.size)
  have bw4 := HB2.out.trans (b24.mono HB2.out.size)
  have k0 : w4.cell? ⟨w3.heap.size, 0, none⟩ = some (.int .i64 u) := F4.cell 0
  have k1 : w4.cell? ⟨w3.heap.size, 1, none⟩ = some (.slice A3 n3 c3) := F4.cell 1
  have x4 : w4.cell? ⟨w.heap.size, 4, none⟩ = some (.int .i64 code) := (HX2.out.below b24 HX2.out.lt).cell 4
  have HB4 := Lib.hid bw4
  have hv : (Option.isSome (some (u, pdu)) && (((some (u, pdu)).getD (0, [])).1 != 0)) = (u != 0) := rfl
  rw [hv]
  have hg1 : ((some (u, pdu)).getD (0, [])).1 = u := rfl
  rw [hg1]
  by_cases hu0 : u = 0
  ·subst hu0
   have HE2 := Lib.hid (two_zero (a := ⟨2, wait, gap, regs, code, na, unit, wth, data⟩) HM.out rfl hq)
   have hb : ((0 : Int) != 0) = false := rfl
   rw [hb]
   clear s3 b3 hq hv hg1
   go_wp2_with fail
   go_ret
   rw [HE2.out]
   exact ⟨none, 0, 0, rfl, SlI.nil _ _ _, HB4.out⟩
  ·have HE2 := Lib.hid (two_some (a := ⟨2, wait, gap, regs, code, na, unit, wth, data⟩) HM.out rfl hq hu0)
   have hb : (u != 0) = true := by simp [hu0]
   rw [hb]
   obtain ⟨x, hx⟩ : ∃ x, pdu[0]? = some x := ⟨_, List.getElem?_eq_getElem (by omega)⟩
   have hgx : pdu.getD 0 0 = x := by rw [List.getD, hx]; rfl
   have hx8 := hp8 x (List.mem_of_getElem? hx)
   obtain ⟨g, off, rfl, hlt, hcc⟩ := (s3.up b34).2.2.2.2 (by omega)
   have hcx : w4.cell? ⟨g, off + 0, none⟩ = some (.int .u8 x) := hcc 0 x hx
   rw [Nat.add_zero] at hcx
   have hn3 : n3 = pdu.length := s3.1.symm
   have hn0 : (0 : Int) < (n3 : Int) := by omega
   have hn0' : 0 < n3 := by omega
   obtain ⟨y, hy⟩ : ∃ y, 128 + x % 128 = y := ⟨_, rfl⟩
   have hm1 : IntKind.u8.wrap (x.tmod 128 + 128) = y := by rw [Int.tmod_eq_emod_of_nonneg hx8.1]; simp only [IntKind.wrap_u8]; omega
   have hm2 : IntKind.u8.wrap code = code := by simp only [IntKind.wrap_u8]; omega
   have h8x : Byte8 [y, code] := Byte8.mk (by omega) (Byte8.mk (by omega) Byte8.nil)
   have HBY := Lib.hid (fun (W : World) (B : Option Addr) (h : SlI W W.heap.size .u8 B 2 2 [y, code]) => dbytes_any u B 2 2 [y, code] W h h8x)
   have k0a : (w4.alloc (.cells #[.int .u8 y, .int .u8 code] 5)).cell? ⟨w3.heap.size, 0, none⟩ = some (.int .i64 u) := (F4.alloc _).cell 0
   have hne1 : w3.heap.size ≠ w4.heap.size := by have := F4.lt; omega
   have hne2 : w3.heap.size < w4.heap.size := F4.lt
   have HFE : Hid (bytesA req ⟨2, wait, gap, regs, code, na, unit, wth, data⟩ = (rtuB u [y, code]).getD []) := Lib.hid (by rw [HE2.out, hgx, hy])
   obtain ⟨er, her⟩ : ∃ z, (if (rtuB u [y, code]).isSome then (0 : Int) else 200) = z := ⟨_, rfl⟩
   have HER := Lib.hid her
   clear HE2 her h8x hgx F4 s3 b3 hq hu0 hcc hx hn3 hv hg1
   go_upto_region 12 with fail
   go_region_with (go_at_call 60; refine (HBY.out _ _ ((SlI.of_two (Held.new w4 5 #[.int .u8 y, .int .u8 code])).up (by repeat first | exact Below.refl _ _ | apply Below.drew | apply below_drewN))).mono ?_; rintro e wb ⟨B5, n5, c5, rfl, s5, bwb, _⟩; rw [HER.out])
   all_goals (
    have hlw : w4.heap.size ≤ (w4.alloc (.cells #[.int .u8 y, .int .u8 code] 5)).drew.heap.size := (((Below.refl _ w4).alloc (Nat.le_refl _) (.cells #[.int .u8 y, .int .u8 code] 5)).drew).size
    have bw5 : Below w4.heap.size w4 wb := (((Below.refl _ w4).alloc (Nat.le_refl _) (.cells #[.int .u8 y, .int .u8 code] 5)).drew).trans (bwb.mono hlw)
    have HO5 := Lib.hid (And.intro s5 (HB4.out.trans (bw5.mono HB4.out.size)))
    clear s5 bw5 bwb
    go_wp2_with fail
    go_ret
    rw [HFE.out]
    exact ⟨B5, n5, c5, rfl, HO5.out.1, HO5.out.2⟩)
theorem rb_3 (A : Option Addr) (n c : Nat) (req : List Int) (Ar : Option Addr) (nr cr : Nat) (D : Option Addr) (nd cd : Nat) (wait gap : Int) (regs : List Int) (code na unit wth : Int) (data : List Int) (w : World) (hS : SlI w w.heap.size .u8 A n c req) (hn : n ≤ 1000) (h8 : Byte8 req) (h1 : SlI w w.heap.size .u16 Ar nr cr regs) (h2 : SlI w w.heap.size .u8 D nd cd data) (hok : ActP.ok ⟨3, wait, gap, regs, code, na, unit, wth, data⟩) (hm : mayA ⟨3, wait, gap, regs, code, na, unit, wth, data⟩ = true) :
  Calls Tryd.prog 24 #[.slice A n c, .agg #[.int .i64 3, .int .i64 wait, .int .i64 gap, .slice Ar nr cr, .int .i64 code, .int .i64 na, .int .i64 unit, .int .u8 wth, .slice D nd cd]] w (SlPost w (bytesA req ⟨3, wait, gap, regs, code, na, unit, wth, data⟩)) := by
 obtain ⟨w1, hw1⟩ : ∃ W, w.alloc (.cells #[.int .i64 3, .int .i64 wait, .int .i64 gap, .slice Ar nr cr, .int .i64 code, .int .i64 na, .int .i64 unit, .int .u8 wth, .slice D nd cd] 29) = W := ⟨_, rfl⟩
 have b1 := zB1 hw1
 have hX1 := zH1 hw1
 have HC := Lib.hid (rmay_any (.agg #[.int .i64 3, .int .i64 wait, .int .i64 gap, .slice Ar nr cr, .int .i64 code, .int .i64 na, .int .i64 unit, .int .u8 wth, .slice D nd cd]) ⟨3, wait, gap, regs, code, na, unit, wth, data⟩ w1 ⟨Ar, nr, cr, D, nd, cd, rfl, h1.up b1, h2.up b1⟩ hok)
 rw [hm] at HC
 have HX1 := Lib.hid hX1
 have HB1 := Lib.hid b1
 have HS := Lib.hid (fun (V : World) (h : Below w.heap.size w V) => hS.up h)
 have HRG := Lib.hid (fun (V : World) (h : Below w.heap.size w V) => h1.up h)
 have HD := Lib.hid (fun (V : World) (h : Below w.heap.size w V) => h2.up h)
 have HOK := Lib.hid hok
 have H8 := Lib.hid h8
 have hrl := h1.1
 have hdl := h2.1
 obtain ⟨x0, x1, x2, x3, x4, x5, x6, x7, x8⟩ := zC9 hX1
 have HE : Hid (bytesA req ⟨3, wait, gap, regs, code, na, unit, wth, data⟩ = []) := Lib.hid (be_3 req wait gap regs code na unit wth data hm)
 have HM := Lib.hid hm
 clear hX1 b1 hS h1 h2 hok h8 hm
 go_in
 go_wp2_with fail
 refine HC.out.mono ?_
 rintro e w2 ⟨rfl, b2⟩
 have hX2 := HX1.out.below b2 HX1.out.lt
 have HB2 := Lib.hid (HB1.out.trans (b2.mono HB1.out.size))
 obtain ⟨x0, -, -, x3, x4, x5, x6, x7, x8⟩ := zC9 hX2
 have HX2 := Lib.hid hX2
 clear b2 hX2
 go_wp2_with fail
 go_ret
 rw [HE.out]
 exact ⟨none, 0, 0, rfl, SlI.nil _ _ _, HB2.out⟩
theorem rb_4 (A : Option Addr) (n c : Nat) (req : List Int) (Ar : Option Addr) (nr cr : Nat) (D : Option Addr) (nd cd : Nat) (wait gap : Int) (regs : List Int) (code na unit wth : Int) (data : List Int) (w : World) (hS : SlI w w.heap.size .u8 A n c req) (hn : n ≤ 1000) (h8 : Byte8 req) (h1 : SlI w w.heap.size .u16 Ar nr cr regs) (h2 : SlI w w.heap.size .u8 D nd cd data) (hok : ActP.ok ⟨4, wait, gap, regs, code, na, unit, wth, data⟩) (hm : mayA ⟨4, wait, gap, regs, code, na, unit, wth, data⟩ = true) :
  Calls Tryd.prog 24 #[.slice A n c, .agg #[.int .i64 4, .int .i64 wait, .int .i64 gap, .slice Ar nr cr, .int .i64 code, .int .i64 na, .int .i64 unit, .int .u8 wth, .slice D nd cd]] w (SlPost w (bytesA req ⟨4, wait, gap, regs, code, na, unit, wth, data⟩)) := by
 obtain ⟨w1, hw1⟩ : ∃ W, w.alloc (.cells #[.int .i64 4, .int .i64 wait, .int .i64 gap, .slice Ar nr cr, .int .i64 code, .int .i64 na, .int .i64 unit, .int .u8 wth, .slice D nd cd] 29) = W := ⟨_, rfl⟩
 have b1 := zB1 hw1
 have hX1 := zH1 hw1
 have HC := Lib.hid (rmay_any (.agg #[.int .i64 4, .int .i64 wait, .int .i64 gap, .slice Ar nr cr, .int .i64 code, .int .i64 na, .int .i64 unit, .int .u8 wth, .slice D nd cd]) ⟨4, wait, gap, regs, code, na, unit, wth, data⟩ w1 ⟨Ar, nr, cr, D, nd, cd, rfl, h1.up b1, h2.up b1⟩ hok)
 rw [hm] at HC
 have HX1 := Lib.hid hX1
 have HB1 := Lib.hid b1
 have HS := Lib.hid (fun (V : World) (h : Below w.heap.size w V) => hS.up h)
 have HRG := Lib.hid (fun (V : World) (h : Below w.heap.size w V) => h1.up h)
 have HD := Lib.hid (fun (V : World) (h : Below w.heap.size w V) => h2.up h)
 have HOK := Lib.hid hok
 have H8 := Lib.hid h8
 have hrl := h1.1
 have hdl := h2.1
 obtain ⟨x0, x1, x2, x3, x4, x5, x6, x7, x8⟩ := zC9 hX1
 have HE : Hid (bytesA req ⟨4, wait, gap, regs, code, na, unit, wth, data⟩ = (rightP req regs (-1)).take na.toNat) := Lib.hid (be_4 req wait gap regs code na unit wth data hm)
 have HM := Lib.hid hm
 clear hX1 b1 hS h1 h2 hok h8 hm
 go_in
 go_wp2_with fail
 refine HC.out.mono ?_
 rintro e w2 ⟨rfl, b2⟩
 have hX2 := HX1.out.below b2 HX1.out.lt
 have HB2 := Lib.hid (HB1.out.trans (b2.mono HB1.out.size))
 obtain ⟨x0, -, -, x3, x4, x5, x6, x7, x8⟩ := zC9 hX2
 have HX2 := Lib.hid hX2
 clear b2 hX2
 have H7 := Lib.hid (rright_any A n c req Ar nr cr regs (-1) w2 (HS.out w2 HB2.out) H8.out (HRG.out w2 HB2.out) HOK.out.2.2.2.1)
 go_wp2_with fail
 refine H7.out.mono ?_
 rintro e w3 ⟨A3, n3, c3, rfl, s3, b3⟩
 obtain ⟨i0, hi, hz0, hz1, hz2⟩ := info_parts infoB
 have hna : 0 ≤ na ∧ na ≤ 1000 := (may_q HM.out).2.2.2.2.2.1
 have hX3 := HX2.out.below b3 HX2.out.lt
 have HX3 := Lib.hid hX3
 have hl3 := s3.1
 have HB3 := Lib.hid (HB2.out.trans (b3.mono HB2.out.size))
 have HS3 := Lib.hid (fun (V : World) (h : Below w3.heap.size w3 V) => s3.up h)
 obtain ⟨bs, hbs⟩ : ∃ z, rightP req regs (-1) = z := ⟨_, rfl⟩
 have HN3 : Hid (n3 ≤ 1000000) := Lib.hid (by have := rightP_len req regs (-1); omega)
 rw [hbs] at HE HS3 hl3
 obtain ⟨mm, rfl⟩ : ∃ mm : Nat, na = mm := ⟨na.toNat, by omega⟩
 clear s3 b3 hX3 hbs
 go_wp2_with fail
 go_loopw [6, 10] (fun u6 u10 wr => ∃ k : Nat, k ≤ n3 ∧ k ≤ mm ∧ u10 = .int .i64 k ∧ wr.ownsRow w3.heap.size 5 1 u6 k ((bs.take k).map (Value.int .u8)) ∧ Below w3.heap.size w3 wr) (fun _ u10 _ => n3 - (intOf u10).toNat)
 case atStart => exact ⟨0, by omega, by omega, rfl, World.ownsRow_nil _ _ _ _, Below.refl _ _⟩
 case round =>
  obtain ⟨k, hk1, hk2, rfl, hown, hb⟩ := hrel
  have hX := HX3.out.below hb HX3.out.lt
  obtain ⟨-, -, -, -, -, y5, -⟩ := zC9 hX
  have hsz := hb.size
  by_cases q1 : k < n3
  ·by_cases q2 : k < mm
   ·obtain ⟨g, off, x, rfl, hg, hx, hc⟩ := (HS3.out wr hb).2.2.2.2.at_ (i := k) (by omega)
    have HT := Lib.hid (show bs.take (k + 1) = bs.take k ++ [x] by rw [List.take_add_one, hx, Option.toList_some])
    have d1 : decide ((k : Int) < (n3 : Int)) = true := decide_eq_true (by omega)
    have d2 : decide ((k : Int) < (mm : Int)) = true := decide_eq_true (by omega)
    obtain ⟨wt, hwt⟩ : ∃ W, wr.alloc (.cells #[.int .u8 x] 5) = W := ⟨_, rfl⟩
    have hbt := zB1 hwt
    have hst : SlI wt wt.heap.size .u8 (some ⟨wr.heap.size, 0, none⟩) 1 1 [x] := by rw [← hwt]; exact SlI.of_lit rfl rfl (by omega)
    have hOt := own_up hown hbt
    have hzt := hbt.size
    have HAk := Lib.hid (show k + 1 ≤ maxLen ∧ (k + 1) * 1 ≤ 140737488355328 by have := HN3.out; unfold maxLen; omega)
    clear hx hown hX
    go_wp2_with ((with_reducible refine at_append ?_); refine wpList_append_sl wt rfl (.tmp 71) (.tmp 76) 22 rfl w3.heap.size 5 i0 (.int .u8 0) 1 Tryd.underlying22 hi hz0 hz1 hz2 rfl u6 k _ rfl hOt wt.heap.size .u8 (some ⟨wr.heap.size, 0, none⟩) 1 1 [x] rfl hst HAk.out.1 HAk.out.2 (by omega) ?_; intro v2 w5 o2 hgr2 _; have hb5 : Below w3.heap.size w3 w5 := (hb.trans (hbt.mono hsz)).grown hgr2 (by omega) (fun j hj => (hOt.lt j hj).1); have O2 := Lib.hid o2; clear hgr2 o2)
    go_roundw
    case rel => exact ⟨k + 1, by omega, by omega, by go_num, by rw [HT.out, List.map_append]; exact O2.out, hb5⟩
    case measure => simp [intOf]; omega
   ·have d1 : decide ((k : Int) < (n3 : Int)) = true := decide_eq_true (by omega)
    have d2 : decide ((k : Int) < (mm : Int)) = false := decide_eq_false (by omega)
    obtain rfl : k = mm := by omega
    obtain ⟨A6, c6, rfl, s6⟩ := SlI.of_own hown
    have HF := Lib.hid (And.intro s6 hb)
    clear hown s6 hX
    go_wp2_with fail
    go_ret
    rw [HE.out]
    exact ⟨A6, _, c6, rfl, HF.out.1, HB3.out.trans (HF.out.2.mono HB3.out.size)⟩
  ·have d1 : decide ((k : Int) < (n3 : Int)) = false := decide_eq_false (by omega)
   obtain rfl : k = n3 := by omega
   obtain ⟨A6, c6, rfl, s6⟩ := SlI.of_own hown
   have HF := Lib.hid (And.intro s6 hb)
   clear hown s6 hX
   go_wp2_with fail
   go_ret
   rw [HE.out, show bs.take (mm : Int).toNat = bs.take k from by rw [List.take_of_length_le (by simp; omega), List.take_of_length_le (by omega)]]
   exact ⟨A6, _, c6, rfl, HF.out.1, HB3.out.trans (HF.out.2.mono HB3.out.size)⟩
theorem rb_5 (A : Option Addr) (n c : Nat) (req : List Int) (Ar : Option Addr) (nr cr : Nat) (D : Option Addr) (nd cd : Nat) (wait gap : Int) (regs : List Int) (code na unit wth : Int) (data : List Int) (w : World) (hS : SlI w w.heap.size .u8 A n c req) (hn : n ≤ 1000) (h8 : Byte8 req) (h1 : SlI w w.heap.size .u16 Ar nr cr regs) (h2 : SlI w w.heap.size .u8 D nd cd data) (hok : ActP.ok ⟨5, wait, gap, regs, code, na, unit, wth, data⟩) (hm : mayA ⟨5, wait, gap, regs, code, na, unit, wth, data⟩ = true) :
  Calls Tryd.prog 24 #[.slice A n c, .agg #[.int .i64 5, .int .i64 wait, .int .i64 gap, .slice Ar nr cr, .int .i64 code, .int .i64 na, .int .i64 unit, .int .u8 wth, .slice D nd cd]] w (SlPost w (bytesA req ⟨5, wait, gap, regs, code, na, unit, wth, data⟩)) := by
 obtain ⟨w1, hw1⟩ : ∃ W, w.alloc (.cells #[.int .i64 5, .int .i64 wait, .int .i64 gap, .slice Ar nr cr, .int .i64 code, .int .i64 na, .int .i64 unit, .int .u8 wth, .slice D nd cd] 29) = W := ⟨_, rfl⟩
 have b1 := zB1 hw1
 have hX1 := zH1 hw1
 have HC := Lib.hid (rmay_any (.agg #[.int .i64 5, .int .i64 wait, .int .i64 gap, .slice Ar nr cr, .int .i64 code, .int .i64 na, .int .i64 unit, .int .u8 wth, .slice D nd cd]) ⟨5, wait, gap, regs, code, na, unit, wth, data⟩ w1 ⟨Ar, nr, cr, D, nd, cd, rfl, h1.up b1, h2.up b1⟩ hok)
 rw [hm] at HC
 have HX1 := Lib.hid hX1
 have HB1 := Lib.hid b1
 have HS := Lib.hid (fun (V : World) (h : Below w.heap.size w V) => hS.up h)
 have HRG := Lib.hid (fun (V : World) (h : Below w.heap.size w V) => h1.up h)
 have HD := Lib.hid (fun (V : World) (h : Below w.heap.size w V) => h2.up h)
 have HOK := Lib.hid hok
 have H8 := Lib.hid h8
 have hrl := h1.1
 have hdl := h2.1
 obtain ⟨x0, x1, x2, x3, x4, x5, x6, x7, x8⟩ := zC9 hX1
 have HE : Hid (bytesA req ⟨5, wait, gap, regs, code, na, unit, wth, data⟩ = spoilL (rightP req regs (-1)) na wth) := Lib.hid (be_5 req wait gap regs code na unit wth data hm)
 have HM := Lib.hid hm
 clear hX1 b1 hS h1 h2 hok h8 hm
 go_in
 go_wp2_with fail
 refine HC.out.mono ?_
 rintro e w2 ⟨rfl, b2⟩
 have hX2 := HX1.out.below b2 HX1.out.lt
 have HB2 := Lib.hid (HB1.out.trans (b2.mono HB1.out.size))
 obtain ⟨x0, -, -, x3, x4, x5, x6, x7, x8⟩ := zC9 hX2
 have HX2 := Lib.hid hX2
 clear b2 hX2
 have H7 := Lib.hid (rright_any A n c req Ar nr cr regs (-1) w2 (HS.out w2 HB2.out) H8.out (HRG.out w2 HB2.out) HOK.out.2.2.2.1)
 go_wp2_with fail
 refine H7.out.mono ?_
 rintro e w3 ⟨A3, n3, c3, rfl, s3, b3⟩
 obtain ⟨i0, hi, hz0, hz1, hz2⟩ := info_parts infoB
 have hna : 0 ≤ na ∧ na ≤ 1000 := (may_q HM.out).2.2.2.2.2.1
 have hX3 := HX2.out.below b3 HX2.out.lt
 have HX3 := Lib.hid hX3
 have hl3 := s3.1
 have HB3 := Lib.hid (HB2.out.trans (b3.mono HB2.out.size))
 have HS3 := Lib.hid (fun (V : World) (h : Below w3.heap.size w3 V) => s3.up h)
 obtain ⟨bs, hbs⟩ : ∃ z, rightP req regs (-1) = z := ⟨_, rfl⟩
 have HN3 : Hid (n3 ≤ 1000000) := Lib.hid (by have := rightP_len req regs (-1); omega)
 rw [hbs] at HE HS3 hl3
 obtain ⟨sp, hsp⟩ : ∃ z, spoilL bs na wth = z := ⟨_, rfl⟩
 have HSP : Hid (∀ (k : Nat) (x : Int), bs[k]? = some x → sp[k]? = some (if k = na.toNat % n3 then Go.bits BinOp.xor IntKind.u8 x wth else x)) := Lib.hid (fun k x hx => by rw [← hsp, ← hl3]; exact spoil_at bs na wth k x hx)
 have HSL : Hid (sp.length = n3) := Lib.hid (by rw [← hsp, spoil_len, hl3])
 rw [hsp] at HE
 obtain ⟨ix, hix⟩ : ∃ ix : Nat, na.toNat % n3 = ix := ⟨_, rfl⟩
 have HRM : Hid (0 < n3 → na.tmod (n3 : Int) = (ix : Int)) := Lib.hid (fun h => by
  rw [Int.tmod_eq_emod_of_nonneg hna.1, ← hix]
  have : na = (na.toNat : Int) := by omega
  rw [this]; simp)
 rw [hix] at HSP
 clear s3 b3 hX3 hbs hsp hix hna
 go_wp2_with fail
 go_loopw [6, 12] (fun u6 u12 wr => ∃ k : Nat, k ≤ n3 ∧ u12 = .int .i64 k ∧ wr.ownsRow w3.heap.size 5 1 u6 k ((sp.take k).map (Value.int .u8)) ∧ Below w3.heap.size w3 wr) (fun _ u12 _ => n3 - (intOf u12).toNat)
 case atStart => exact ⟨0, by omega, rfl, World.ownsRow_nil _ _ _ _, Below.refl _ _⟩
 case round =>
  obtain ⟨k, hk1, rfl, hown, hb⟩ := hrel
  have hX := HX3.out.below hb HX3.out.lt
  obtain ⟨-, -, -, -, -, y5, -, y7, -⟩ := zC9 hX
  have hsz := hb.size
  by_cases q1 : k < n3
  ·obtain ⟨g, off, x, rfl, hg, hx, hc⟩ := (HS3.out wr hb).2.2.2.2.at_ (i := k) (by omega)
   have hsx := HSP.out k x hx
   have hrem := HRM.out (by omega)
   have hn36 := HN3.out
   have hn0 : ¬ ((n3 : Int) = 0) := by omega
   have d1 : decide ((k : Int) < (n3 : Int)) = true := decide_eq_true (by omega)
   have HAk := Lib.hid (show k + 1 ≤ maxLen ∧ (k + 1) * 1 ≤ 140737488355328 by have := HN3.out; unfold maxLen; omega)
   obtain ⟨y, hy⟩ : ∃ y, Go.bits BinOp.xor IntKind.u8 x wth = y := ⟨_, rfl⟩
   rw [hy] at hsx
   by_cases q2 : k = ix
   ·rw [if_pos q2] at hsx
    have HT := Lib.hid (show sp.take (k + 1) = sp.take k ++ [y] by rw [List.take_add_one, hsx, Option.toList_some])
    have d2 : ((k : Int) == (ix : Int)) = true := by simp [q2]
    obtain ⟨wt, hwt⟩ : ∃ W, wr.alloc (.cells #[.int .u8 y] 5) = W := ⟨_, rfl⟩
    have hbt := zB1 hwt
    have hst : SlI wt wt.heap.size .u8 (some ⟨wr.heap.size, 0, none⟩) 1 1 [y] := by rw [← hwt]; exact SlI.of_lit rfl rfl (by omega)
    have hOt := own_up hown hbt
    have hzt := hbt.size
    clear hx hown hX hsx q2
    go_wp2_with ((with_reducible refine at_append ?_); refine wpList_append_sl wt rfl (.tmp 106) (.tmp 108) 22 rfl w3.heap.size 5 i0 (.int .u8 0) 1 Tryd.underlying22 hi hz0 hz1 hz2 rfl u6 k _ rfl hOt wt.heap.size .u8 (some ⟨wr.heap.size, 0, none⟩) 1 1 [y] rfl hst HAk.out.1 HAk.out.2 (by omega) ?_; intro v2 w5 o2 hgr2 _; have hb5 : Below w3.heap.size w3 w5 := (hb.trans (hbt.mono hsz)).grown hgr2 (by omega) (fun j hj => (hOt.lt j hj).1); have O2 := Lib.hid o2; clear hgr2 o2)
    go_roundw
    case rel => exact ⟨k + 1, by omega, by go_num, by rw [HT.out, List.map_append]; exact O2.out, hb5⟩
    case measure => simp [intOf]; omega
   ·rw [if_neg q2] at hsx
    have HT := Lib.hid (show sp.take (k + 1) = sp.take k ++ [x] by rw [List.take_add_one, hsx, Option.toList_some])
    have d2 : ((k : Int) == (ix : Int)) = false := by simp; omega
    obtain ⟨wt, hwt⟩ : ∃ W, wr.alloc (.cells #[.int .u8 x] 5) = W := ⟨_, rfl⟩
    have hbt := zB1 hwt
    have hst : SlI wt wt.heap.size .u8 (some ⟨wr.heap.size, 0, none⟩) 1 1 [x] := by rw [← hwt]; exact SlI.of_lit rfl rfl (by omega)
    have hOt := own_up hown hbt
    have hzt := hbt.size
    clear hx hown hX hsx q2
    go_wp2_with ((with_reducible refine at_append ?_); refine wpList_append_sl wt rfl (.tmp 106) (.tmp 108) 22 rfl w3.heap.size 5 i0 (.int .u8 0) 1 Tryd.underlying22 hi hz0 hz1 hz2 rfl u6 k _ rfl hOt wt.heap.size .u8 (some ⟨wr.heap.size, 0, none⟩) 1 1 [x] rfl hst HAk.out.1 HAk.out.2 (by omega) ?_; intro v2 w5 o2 hgr2 _; have hb5 : Below w3.heap.size w3 w5 := (hb.trans (hbt.mono hsz)).grown hgr2 (by omega) (fun j hj => (hOt.lt j hj).1); have O2 := Lib.hid o2; clear hgr2 o2)
    go_roundw
    case rel => exact ⟨k + 1, by omega, by go_num, by rw [HT.out, List.map_append]; exact O2.out, hb5⟩
    case measure => simp [intOf]; omega
  ·have d1 : decide ((k : Int) < (n3 : Int)) = false := decide_eq_false (by omega)
   obtain rfl : k = n3 := by omega
   obtain ⟨A6, c6, rfl, s6⟩ := SlI.of_own hown
   have HF := Lib.hid (And.intro s6 hb)
   clear hown s6 hX
   go_wp2_with fail
   go_ret
   rw [HE.out, show sp = sp.take k from (List.take_of_length_le (by rw [HSL.out]; exact Nat.le_refl _)).symm]
   exact ⟨A6, _, c6, rfl, HF.out.1, HB3.out.trans (HF.out.2.mono HB3.out.size)⟩
theorem rb_6 (A : Option Addr) (n c : Nat) (req : List Int) (Ar : Option Addr) (nr cr : Nat) (D : Option Addr) (nd cd : Nat) (wait gap : Int) (regs : List Int) (code na unit wth : Int) (data : List Int) (w : World) (hS : SlI w w.heap.size .u8 A n c req) (hn : n ≤ 1000) (h8 : Byte8 req) (h1 : SlI w w.heap.size .u16 Ar nr cr regs) (h2 : SlI w w.heap.size .u8 D nd cd data) (hok : ActP.ok ⟨6, wait, gap, regs, code, na, unit, wth, data⟩) (hm : mayA ⟨6, wait, gap, regs, code, na, unit, wth, data⟩ = true) :
  Calls Tryd.prog 24 #[.slice A n c, .agg #[.int .i64 6, .int .i64 wait, .int .i64 gap, .slice Ar nr cr, .int .i64 code, .int .i64 na, .int .i64 unit, .int .u8 wth, .slice D nd cd]] w (SlPost w (bytesA req ⟨6, wait, gap, regs, code, na, unit, wth, data⟩)) := by
 obtain ⟨w1, hw1⟩ : ∃ W, w.alloc (.cells #[.int .i64 6, .int .i64 wait, .int .i64 gap, .slice Ar nr cr, .int .i64 code, .int .i64 na, .int .i64 unit, .int .u8 wth, .slice D nd cd] 29) = W := ⟨_, rfl⟩
 have b1 := zB1 hw1
 have hX1 := zH1 hw1
 have HC := Lib.hid (rmay_any (.agg #[.int .i64 6, .int .i64 wait, .int .i64 gap, .slice Ar nr cr, .int .i64 code, .int .i64 na, .int .i64 unit, .int .u8 wth, .slice D nd cd]) ⟨6, wait, gap, regs, code, na, unit, wth, data⟩ w1 ⟨Ar, nr, cr, D, nd, cd, rfl, h1.up b1, h2.up b1⟩ hok)
 rw [hm] at HC
 have HX1 := Lib.hid hX1
 have HB1 := Lib.hid b1
 have HS := Lib.hid (fun (V : World) (h : Below w.heap.size w V) => hS.up h)
 have HRG := Lib.hid (fun (V : World) (h : Below w.heap.size w V) => h1.up h)
 have HD := Lib.hid (fun (V : World) (h : Below w.heap.size w V) => h2.up h)
 have HOK := Lib.hid hok
 have H8 := Lib.hid h8
 have hrl := h1.1
 have hdl := h2.1
 obtain ⟨x0, x1, x2, x3, x4, x5, x6, x7, x8⟩ := zC9 hX1
 have HE : Hid (bytesA req ⟨6, wait, gap, regs, code, na, unit, wth, data⟩ = rightP req regs unit) := Lib.hid (be_6 req wait gap regs code na unit wth data hm)
 have HM := Lib.hid hm
 clear hX1 b1 hS h1 h2 hok h8 hm
 go_in
 go_wp2_with fail
 refine HC.out.mono ?_
 rintro e w2 ⟨rfl, b2⟩
 have hX2 := HX1.out.below b2 HX1.out.lt
 have HB2 := Lib.hid (HB1.out.trans (b2.mono HB1.out.size))
 obtain ⟨x0, -, -, x3, x4, x5, x6, x7, x8⟩ := zC9 hX2
 have HX2 := Lib.hid hX2
 clear b2 hX2
 have H7 := Lib.hid (rright_any A n c req Ar nr cr regs unit w2 (HS.out w2 HB2.out) H8.out (HRG.out w2 HB2.out) HOK.out.2.2.2.1)
 go_wp2_with fail
 refine H7.out.mono ?_
 rintro e w3 ⟨A3, n3, c3, rfl, s3, b3⟩
 have HO := Lib.hid (And.intro s3 b3)
 clear s3 b3
 go_wp2_with fail
 go_ret
 rw [HE.out]
 exact ⟨A3, n3, c3, rfl, HO.out.1, HB2.out.trans (HO.out.2.mono HB2.out.size)⟩
theorem rb_7 (A : Option Addr) (n c : Nat) (req : List Int) (Ar : Option Addr) (nr cr : Nat) (D : Option Addr) (nd cd : Nat) (wait gap : Int) (regs : List Int) (code na unit wth : Int) (data : List Int) (w : World) (hS : SlI w w.heap.size .u8 A n c req) (hn : n ≤ 1000) (h8 : Byte8 req) (h1 : SlI w w.heap.size .u16 Ar nr cr regs) (h2 : SlI w w.heap.size .u8 D nd cd data) (hok : ActP.ok ⟨7, wait, gap, regs, code, na, unit, wth, data⟩) (hm : mayA ⟨7, wait, gap, regs, code, na, unit, wth, data⟩ = true) :
  Calls Tryd.prog 24 #[.slice A n c, .agg #[.int .i64 7, .int .i64 wait, .int .i64 gap, .slice Ar nr cr, .int .i64 code, .int .i64 na, .int .i64 unit, .int .u8 wth, .slice D nd cd]] w (SlPost w (bytesA req ⟨7, wait, gap, regs, code, na, unit, wth, data⟩)) := by
 obtain ⟨w1, hw1⟩ : ∃ W, w.alloc (.cells #[.int .i64 7, .int .i64 wait, .int .i64 gap, .slice Ar nr cr, .int .i64 code, .int .i64 na, .int .i64 unit, .int .u8 wth, .slice D nd cd] 29) = W := ⟨_, rfl⟩
 have b1 := zB1 hw1
 have hX1 := zH1 hw1
 have HC := Lib.hid (rmay_any (.agg #[.int .i64 7, .int .i64 wait, .int .i64 gap, .slice Ar nr cr, .int .i64 code, .int .i64 na, .int .i64 unit, .int .u8 wth, .slice D nd cd]) ⟨7, wait, gap, regs, code, na, unit, wth, data⟩ w1 ⟨Ar, nr, cr, D, nd, cd, rfl, h1.up b1, h2.up b1⟩ hok)
 rw [hm] at HC
 have HX1 := Lib.hid hX1
 have HB1 := Lib.hid b1
 have HS := Lib.hid (fun (V : World) (h : Below w.heap.size w V) => hS.up h)
 have HRG := Lib.hid (fun (V : World) (h : Below w.heap.size w V) => h1.up h)
 have HD := Lib.hid (fun (V : World) (h : Below w.heap.size w V) => h2.up h)
 have HOK := Lib.hid hok
 have H8 := Lib.hid h8
 have hrl := h1.1
 have hdl := h2.1
 obtain ⟨x0, x1, x2, x3, x4, x5, x6, x7, x8⟩ := zC9 hX1
 have HE : Hid (bytesA req ⟨7, wait, gap, regs, code, na, unit, wth, data⟩ = data) := Lib.hid (be_7 req wait gap regs code na unit wth data hm)
 have HM := Lib.hid hm
 clear hX1 b1 hS h1 h2 hok h8 hm
 go_in
 go_wp2_with fail
 refine HC.out.mono ?_
 rintro e w2 ⟨rfl, b2⟩
 have hX2 := HX1.out.below b2 HX1.out.lt
 have HB2 := Lib.hid (HB1.out.trans (b2.mono HB1.out.size))
 obtain ⟨x0, -, -, x3, x4, x5, x6, x7, x8⟩ := zC9 hX2
 have HX2 := Lib.hid hX2
 clear b2 hX2
 obtain ⟨i0, hi, hz0, hz1, hz2⟩ := info_parts infoB
 have hnd : nd ≤ 300 := by have := (may_q HM.out).2.2.2.2.1; dsimp only at this; omega
 have HA1 := Lib.hid (show 0 + nd ≤ maxLen ∧ (0 + nd) * 1 ≤ 140737488355328 by unfold maxLen; omega)
 have s2 := HD.out w2 HB2.out
 have hz := HB2.out.size
 go_wp2_with ((with_reducible refine at_append ?_); refine wpList_append_sl w2 rfl (.tmp 121) (.tmp 123) 22 rfl w.heap.size 5 i0 (.int .u8 0) 1 Tryd.underlying22 hi hz0 hz1 hz2 rfl _ 0 ([].map (Value.int .u8)) rfl (World.ownsRow_nil _ _ _ _) w2.heap.size .u8 D nd cd data rfl s2 HA1.out.1 HA1.out.2 hz ?_; intro v3 w3 hO3 hg3 _; have hb3 := HB2.out.grown hg3 hz (fun B hB => by cases hB); clear hg3)
 obtain ⟨A3, c3, rfl, s3⟩ := SlI.of_own (xs := data) (by simpa using hO3)
 go_ret
 rw [HE.out]
 exact ⟨A3, _, c3, rfl, s3, hb3⟩
theorem docbytes_any (A : Option Addr) (n c : Nat) (req : List Int) (v : Value) (a : ActP) (w : World) (hS : SlI w w.heap.size .u8 A n c req) (hn : n ≤ 1000) (h8 : Byte8 req) (hA : ActAt w v a) (hok : a.ok) :
  Calls Tryd.prog 24 #[.slice A n c, v] w (SlPost w (bytesA req a)) := by
 obtain ⟨Ar, nr, cr, D, nd, cd, rfl, h1, h2⟩ := hA
 obtain ⟨kind, wait, gap, regs, code, na, unit, wth, data⟩ := a
 cases hm : mayA ⟨kind, wait, gap, regs, code, na, unit, wth, data⟩ with
 | false => exact rb_0 A n c req Ar nr cr D nd cd wait gap regs code na unit wth data kind w hS hn h8 h1 h2 hok hm
 | true =>
  have hk := (may_q hm).1
  dsimp only at hk
  rcases (show kind = 1 ∨ kind = 2 ∨ kind = 3 ∨ kind = 4 ∨ kind = 5 ∨ kind = 6 ∨ kind = 7 by omega) with rfl | rfl | rfl | rfl | rfl | rfl | rfl
  ·exact rb_1 A n c req Ar nr cr D nd cd wait gap regs code na unit wth data w hS hn h8 h1 h2 hok hm
  ·exact rb_2 A n c req Ar nr cr D nd cd wait gap regs code na unit wth data w hS hn h8 h1 h2 hok hm
  ·exact rb_3 A n c req Ar nr cr D nd cd wait gap regs code na unit wth data w hS hn h8 h1 h2 hok hm
  ·exact rb_4 A n c req Ar nr cr D nd cd wait gap regs code na unit wth data w hS hn h8 h1 h2 hok hm
  ·exact rb_5 A n c req Ar nr cr D nd cd wait gap regs code na unit wth data w hS hn h8 h1 h2 hok hm
  ·exact rb_6 A n c req Ar nr cr D nd cd wait gap regs code na unit wth data w hS hn h8 h1 h2 hok hm
  ·exact rb_7 A n c req Ar nr cr D nd cd wait gap regs code na unit wth data w hS hn h8 h1 h2 hok hm
end Go.Proofs.YtcipleanckeoaaaDoor
