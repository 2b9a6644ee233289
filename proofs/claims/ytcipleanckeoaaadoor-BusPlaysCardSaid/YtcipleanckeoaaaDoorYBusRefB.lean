/- The document's Seal; a frame's bytes, the program's and the document's. -/
import Derived.Test.YtcipleanckeoaaaDoorYTk
import Derived.Laws.BitsAllLaws
import Derived.Test.YtcipleanckeoaaaDoorYRtu
import Derived.Test.YtcipleanckeoaaaDoorYPduBase
import Derived.Deep.QuietTactic
import Derived.Deep.Cut
import Derived.Deep.MidRow
set_option maxRecDepth 100000
set_option maxHeartbeats 40000000
namespace Go.Proofs.YtcipleanckeoaaaDoor
open Go.RowKit Go.Shelf
attribute [local go_sem] Oper.semAt_some
set_option linter.unusedVariables false
set_option linter.unusedSimpArgs false
theorem equal8_any (A A' : Option Addr) (n n' c c' : Nat) (xs ys : List Int) (w : World) (hA : SlI w w.heap.size .u8 A n c xs) (hA' : SlI w w.heap.size .u8 A' n' c' ys) :
  Calls Tryd.prog 135 #[.slice A n c, .slice A' n' c'] w fun e w' => e = .returned (.bool (decide (xs = ys))) ∧ ∃ m, w' = w.drewN m := by
 obtain ⟨hn, hcap, hl, hNone, hA⟩ := hA
 obtain ⟨hn', hcap', hl', hNone', hA'⟩ := hA'
 unfold maxLen at hl hl'
 by_cases hne : n = n'
 ·subst hne
  have HN := Lib.hid hn
  have HE := Lib.hid hn'
  have HA := Lib.hid hA
  have HA' := Lib.hid hA'
  clear hn hn' hA hA' hNone hNone'
  go_in
  go_wp2
  go_loopw [13] (fun i wr => ∃ j m : Nat, j ≤ n ∧ i = .int .i64 j ∧ xs.take j = ys.take j ∧ wr = w.drewN m) (fun i _ => n - (intOf i).toNat)
  case atStart => exact ⟨0, 0, Nat.zero_le _, rfl, by simp, rfl⟩
  case round =>
   obtain ⟨j, m, hj, rfl, ht, rfl⟩ := hrel
   have HT := Lib.hid ht
   clear ht
   by_cases hlt : j < n
   ·obtain ⟨g, off, x, rfl, _, hx, hc⟩ := HA.out.at_ (i := j) (by have := HN.out; omega)
    obtain ⟨g', off', y, rfl, _, hy, hc'⟩ := HA'.out.at_ (i := j) (by have := HE.out; omega)
    have HX := Lib.hid hx
    have HY := Lib.hid hy
    clear hx hy
    by_cases he : x = y
    ·have HEQ := Lib.hid he
     have hb : (x != y) = false := by simpa using he
     clear he
     go_wp2
     go_quiet (fail)
     go_wp2
     go_roundw
     case rel => exact ⟨j + 1, _, by omega, by go_num, take_eq_next HT.out HX.out HY.out HEQ.out, rfl⟩
     case measure => simp [intOf]; omega
    ·have hb : (x != y) = true := by simpa using he
     have HNE := Lib.hid he
     clear he
     go_wp2
     go_quiet (fail)
     go_wp2
     go_ret
     exact ⟨retb (by
      symm; simp only [decide_eq_false_iff_not]; intro e; apply HNE.out
      have h1 := HX.out; have h2 := HY.out
      rw [e, h2] at h1; injection h1 with h1; exact h1.symm), _, World.drewN_drewN _ _ _⟩
   ·go_wp2
    go_ret
    refine ⟨retb ?_, _, rfl⟩
    symm
    obtain rfl : j = n := by omega
    have h1 := HT.out
    rw [List.take_of_length_le (by have := HN.out; omega), List.take_of_length_le (by have := HE.out; omega)] at h1
    simpa using h1
 ·have hb : ((n : Int) != (n' : Int)) = true := by simp; omega
  clear hA hA'
  go_in
  go_wp2
  go_ret
  exact ⟨retb (by symm; simp only [decide_eq_false_iff_not]; intro e; apply hne; rw [← hn, ← hn', e]), 0, rfl⟩
def openL (b : List Int) : Option (List Int) := if 2 ≤ b.length ∧ sealL (b.take (b.length - 2)) = b then some (b.take (b.length - 2)) else none
def OpenPost (w : World) (b : List Int) (e : Ending) (w' : World) : Prop := ∃ A m c, e = .returned (.tuple #[.slice A m c, .int .i64 (if (openL b).isSome then 0 else 30)]) ∧ SlI w' w'.heap.size .u8 A m c ((openL b).getD []) ∧ Below w.heap.size w w'
theorem copen_any (A : Option Addr) (n c : Nat) (b : List Int) (w : World) (hS : SlI w w.heap.size .u8 A n c b) (hn : n ≤ 100000) (h8 : Byte8 b) :
  Calls Tryd.prog 104 #[.slice A n c, .int .i64 2, .func (.func 66) #[] #[]] w (OpenPost w b) := by
 have hl := hS.1
 have hcf := fun (xs : Array Value) (W : World) => (enters_of Tryd.func66 (by kernel_rfl) rfl xs W : (callFunc 66 xs).run Tryd.prog W = .ok (.enter 66 xs) W)
 by_cases h2 : n < 2
 ·have e : openL b = none := by unfold openL; rw [if_neg (by omega)]
  have hd : decide ((n : Int) < 2) = true := decide_eq_true (by omega)
  have HE := Lib.hid e
  clear hS e
  go_in
  go_wp2_with fail
  go_ret2
  exact ⟨none, 0, 0, by rw [HE.out]; rfl, by rw [HE.out]; exact SlI.nil _ _ _, Below.refl _ _⟩
 ·obtain ⟨g, off, rfl, hg⟩ := hS.some_ (by omega)
  have hd : decide ((n : Int) < 2) = false := decide_eq_false (by omega)
  have hT := hS.take (n - 2) (by omega)
  have HSE := Lib.hid (seal_any (some ⟨g, off, none⟩) (n - 2) c (b.take (n - 2)) w hT (by omega) (fun x hx => h8 x (List.mem_of_mem_take hx)))
  have HS := Lib.hid hS
  have hsub : IntKind.i64.wrap ((n : Int) - 2) = ((n - 2 : Nat) : Int) := by simp only [IntKind.wrap_i64]; omega
  have hcap := hS.2.1
  obtain ⟨q, hq⟩ : ∃ q : Nat, n - 2 = q := ⟨_, rfl⟩
  have hqn : n = q + 2 := by omega
  rw [hq] at HSE hT hsub
  have HQ := Lib.hid hq
  have hqc : q ≤ c := by omega
  have hqI : (q : Int) ≤ (c : Int) := by omega
  have HT := Lib.hid hT
  clear hS hq hT
  have HQN := Lib.hid hqn
  clear hqn hcap
  have h8' : Byte8 b := h8
  go_in
  go_wp2_with fail
  refine HSE.out.mono ?_
  rintro e w1 ⟨v, rfl, o1, b1⟩
  obtain ⟨A1, c1, rfl, s1⟩ := SlI.of_own o1
  have HEQ := Lib.hid (equal8_any A1 (some ⟨g, off, none⟩) (q + 2) n c1 c _ _ w1 s1 (HS.out.up b1))
  have HB1 := Lib.hid b1
  clear o1 s1 b1
  go_wp2_with fail
  refine HEQ.out.mono ?_
  rintro e w2 ⟨rfl, m2, hw2⟩
  have b2 : Below w1.heap.size w1 w2 := by rw [hw2]; exact below_drewN (Below.refl _ _) m2
  have HB2 := Lib.hid (HB1.out.trans (b2.mono HB1.out.size))
  clear hw2 b2
  obtain ⟨sl, hsl⟩ : ∃ s, sealL (b.take q) = s := ⟨_, rfl⟩
  rw [hsl]
  have HSL := Lib.hid hsl
  clear hsl
  obtain ⟨eq, heq⟩ : ∃ x, decide (sl = b) = x := ⟨_, rfl⟩
  rw [heq]
  have HEQ2 := Lib.hid heq
  clear heq
  have HO : Hid (openL b = if decide (sl = b) = true then some (b.take q) else none) := Lib.hid (by
   unfold openL
   rw [hl, HQ.out, HSL.out]
   by_cases q1 : sl = b
   ·rw [if_pos ⟨by have := HQN.out; omega, q1⟩, if_pos (decide_eq_true q1)]
   ·rw [if_neg (fun h => q1 h.2), if_neg (by simpa using q1)])
  rw [HEQ2.out] at HO
  cases eq
  ·go_wp2_with fail
   go_ret2
   have e := HO.out
   simp at e
   exact ⟨none, 0, 0, by rw [e]; rfl, by rw [e]; exact SlI.nil _ _ _, HB2.out⟩
  ·have HCL := Lib.hid (bclone_any (some ⟨g, off, none⟩) q c (b.take q) w2 (HT.out.up HB2.out) (by have := HQN.out; omega))
   go_wp2_with fail
   refine HCL.out.mono ?_
   rintro e w3 ⟨v3, rfl, o3, b3⟩
   obtain ⟨A3, c3, rfl, s3⟩ := SlI.of_own o3
   have hb3 := HB2.out.trans (b3.mono HB2.out.size)
   have e := HO.out
   simp at e
   clear b3 o3
   go_wp2_with fail
   go_ret2
   exact ⟨A3, q, c3, by rw [e]; rfl, by rw [e]; exact s3, hb3⟩
theorem open16_any (A : Option Addr) (n c : Nat) (b : List Int) (w : World) (hS : SlI w w.heap.size .u8 A n c b) (hn : n ≤ 100000) (h8 : Byte8 b) :
  Calls Tryd.prog 67 #[.slice A n c] w (OpenPost w b) := by
 have H := Lib.hid (copen_any A n c b w hS hn h8)
 clear hS
 go_in
 go_wp2_with fail
 refine H.out.mono ?_
 rintro e w1 ⟨A1, m1, c1, rfl, s1, b1⟩
 have H1 := Lib.hid (And.intro s1 b1)
 clear s1 b1
 obtain ⟨er, her⟩ : ∃ er, (if (openL b).isSome then (0 : Int) else 30) = er := ⟨_, rfl⟩
 rw [her]
 have HER := Lib.hid her
 clear her
 go_wp2_with fail
 go_ret2
 exact ⟨A1, m1, c1, by rw [HER.out]; rfl, H1.out.1, H1.out.2⟩
def readR (b : List Int) : Option (Int × List Int) := match openL b with
 | none => none
 | some l => if 2 ≤ l.length ∧ l.length ≤ 254 ∧ l.getD 0 0 ≤ 247 then some (l.getD 0 0, l.drop 1) else none
def RtuPost (w : World) (o : Option (Int × List Int)) (e : Ending) (w' : World) : Prop := ∃ A m c, e = .returned (.tuple #[.agg #[.int .i64 (o.getD (0, [])).1, .slice A m c], .int .i64 (if o.isSome then 0 else 200)]) ∧ SlI w' w'.heap.size .u8 A m c (o.getD (0, [])).2 ∧ Below w.heap.size w w'
theorem results_cellT {fn : Func} {p q : Tmp} {ty t1 : TypeId} (h : fn.results = #[.cell p ty, .tmp q]) (tmps : Array Value) (P : Program) (w : World) (g1 : Nat) (c1 : Array Value) (v1 : Value) (d1 : TypeDesc)
  (hp : tmps.getD p undef = .pointer (some ⟨g1, 0, none⟩)) (hq : tmps.getD q undef = v1) (h1 : Held w g1 t1 c1) (hu1 : P.underlying ty = some d1) (hd1 : d1.isRow = true) (hi1 : (P.info? ty).map (·.size) = some c1.size) : (results fn tmps).run P w = .ok (.tuple #[.agg c1, v1]) w := by
 have hp' : tmps[p]?.getD undef = .pointer (some ⟨g1, 0, none⟩) := by simpa using hp
 have hq' : tmps[q]?.getD undef = v1 := by simpa using hq
 have l1 := run_loadVar_mid w g1 0 ty c1.toList d1 h1.range hu1 hd1 (by simpa using hi1)
 simp [results, h, hp', hq', asAddr, l1]
theorem SlI.far2 {W : World} {k : IntKind} {g off n c b : Nat} {xs : List Int} (h : SlI W W.heap.size k (some ⟨g, off, none⟩) n c xs) (hne : g ≠ b) (a a' : Value) :
  SlI ((W.setCell ⟨b, 0, none⟩ a).setCell ⟨b, 1, none⟩ a').drew ((W.setCell ⟨b, 0, none⟩ a).setCell ⟨b, 1, none⟩ a').drew.heap.size k (some ⟨g, off, none⟩) n c xs := by
 refine ⟨h.1, h.2.1, h.2.2.1, h.2.2.2.1, fun hn => ?_⟩
 obtain ⟨gb, o, ea, hlt, hc⟩ := h.2.2.2.2 hn
 obtain ⟨rfl, rfl⟩ : g = gb ∧ off = o := by simpa using ea
 refine ⟨g, off, rfl, by simpa using hlt, fun i x hx => ?_⟩
 exact (World.cell?_setCell_other _ _ _ _ (by intro e; injection e with e1 e2; exact hne e1.symm)).trans ((World.cell?_setCell_other _ _ _ _ (by intro e; injection e with e1 e2; exact hne e1.symm)).trans (hc i x hx))
theorem rset2 {W : World} {B : Nat} {T : TypeId} {a b : Value} (h : Held W B T #[a, b]) (a' b' : Value) : Held ((W.setCell ⟨B, 0, none⟩ a').setCell ⟨B, 1, none⟩ b') B T #[a', b'] := by
 have h3 := (h.set 0 a').set 1 b'
 simpa using h3
theorem rread_any (A : Option Addr) (n c : Nat) (b : List Int) (w : World) (hS : SlI w w.heap.size .u8 A n c b) (hn : n ≤ 100000) (h8 : Byte8 b) :
  Calls Tryd.prog 29 #[.slice A n c] w (RtuPost w (readR b)) := by
 obtain ⟨w0, hw0⟩ : ∃ Y : World, w.alloc (.cells #[.int .i64 0, .slice none 0 0] 64) = Y := ⟨_, rfl⟩
 have b0 := zB1 hw0
 have hF0 := zH1 hw0
 have H := Lib.hid (open16_any A n c b w0 (hS.up b0) hn h8)
 have HF0 := Lib.hid hF0
 have hlt0 := hF0.lt
 have hbl := hS.1
 clear hS hF0
 go_in
 go_wp2_with fail
 refine H.out.mono ?_
 rintro e w1 ⟨A1, m1, c1, rfl, s1, b1⟩
 have hF1 := HF0.out.below b1 hlt0
 have hb1 := b0.trans (b1.mono b0.size)
 have g0 := hF1.cell 0
 have g1 := hF1.cell 1
 simp only [List.getElem?_toArray, List.getElem?_cons_zero, List.getElem?_cons_succ] at g0 g1
 have fg0 := hF1.frozen 0
 have fg1 := hF1.frozen 1
 have hlt1 := hF1.lt
 have HF1 := Lib.hid hF1
 clear hF1 b1
 have HBAD : Hid (readR b = none → RtuPost w (readR b) (.returned (.tuple #[.agg #[.int .i64 0, .slice none 0 0], .int .i64 200])) ((w1.setCell ⟨w.heap.size, 0, none⟩ (.int .i64 0)).setCell ⟨w.heap.size, 1, none⟩ (.slice none 0 0))) := Lib.hid (fun e => by
  rw [e]
  exact ⟨none, 0, 0, rfl, SlI.nil _ _ _, (hb1.setCell (p := ⟨w.heap.size, 0, none⟩) (Nat.le_refl _) _).setCell (p := ⟨w.heap.size, 1, none⟩) (Nat.le_refl _) _⟩)
 cases ho : openL b with
 | none =>
  have hr : readR b = none := by unfold readR; rw [ho]
  have HR := Lib.hid hr
  clear ho s1 hr
  go_wp2_with fail
  exact bodyPost_ret (results_cellT rfl _ _ _ _ _ _ _ (by kernel_rfl) (by kernel_rfl) (rset2 HF1.out _ _) Tryd.underlying64 (by kernel_rfl) (by kernel_rfl)) rfl (HBAD.out HR.out)
 | some l =>
  rw [ho] at s1
  have s1 : SlI w1 w1.heap.size .u8 A1 m1 c1 l := s1
  have hl1 := s1.1
  have hm1 : m1 ≤ n := by
   unfold openL at ho
   split at ho
   ·cases ho; rw [List.length_take] at hl1; omega
   ·cases ho
  by_cases q1 : m1 < 2
  ·have hr : readR b = none := by unfold readR; rw [ho]; exact if_neg (by omega)
   have HR := Lib.hid hr
   have hd : decide ((m1 : Int) < 2) = true := decide_eq_true (by omega)
   clear ho s1 hr hl1
   go_wp2_with fail
   exact bodyPost_ret (results_cellT rfl _ _ _ _ _ _ _ (by kernel_rfl) (by kernel_rfl) (rset2 HF1.out _ _) Tryd.underlying64 (by kernel_rfl) (by kernel_rfl)) rfl (HBAD.out HR.out)
  have hd : decide ((m1 : Int) < 2) = false := decide_eq_false (by omega)
  by_cases q2 : 254 < m1
  ·have hr : readR b = none := by unfold readR; rw [ho]; exact if_neg (by omega)
   have HR := Lib.hid hr
   have hd2 : decide ((254 : Int) < (m1 : Int)) = true := decide_eq_true (by omega)
   clear ho s1 hr hl1
   go_wp2_with fail
   exact bodyPost_ret (results_cellT rfl _ _ _ _ _ _ _ (by kernel_rfl) (by kernel_rfl) (rset2 HF1.out _ _) Tryd.underlying64 (by kernel_rfl) (by kernel_rfl)) rfl (HBAD.out HR.out)
  have hd2 : decide ((254 : Int) < (m1 : Int)) = false := decide_eq_false (by omega)
  obtain ⟨x0, hx0⟩ : ∃ x, l[0]? = some x := ⟨_, List.getElem?_eq_getElem (by omega)⟩
  have hgd : l.getD 0 0 = x0 := by simp [List.getD, hx0]
  obtain ⟨g, off, rfl, hg, hc⟩ := s1.2.2.2.2 (by omega)
  have hc0 : w1.cell? ⟨g, off, none⟩ = some (.int .u8 x0) := hc 0 x0 hx0
  have hx8 : 0 ≤ x0 ∧ x0 < 256 := by
   unfold openL at ho
   split at ho
   ·cases ho; exact h8 x0 (List.mem_of_mem_take (List.mem_of_getElem? hx0))
   ·cases ho
  have hwx : IntKind.i64.wrap x0 = x0 := by simp only [IntKind.wrap_i64]; omega
  by_cases q3 : 247 < x0
  ·have hr : readR b = none := by unfold readR; rw [ho]; exact if_neg (by rw [hgd]; omega)
   have HR := Lib.hid hr
   have hd3 : decide ((247 : Int) < x0) = true := decide_eq_true q3
   clear ho s1 hr hl1 hc hgd hx0
   go_wp2_with fail
   exact bodyPost_ret (results_cellT rfl _ _ _ _ _ _ _ (by kernel_rfl) (by kernel_rfl) (rset2 HF1.out _ _) Tryd.underlying64 (by kernel_rfl) (by kernel_rfl)) rfl (HBAD.out HR.out)
  have hd3 : decide ((247 : Int) < x0) = false := decide_eq_false q3
  have hr : readR b = some (x0, l.drop 1) := by unfold readR; rw [ho]; exact (if_pos ⟨by omega, by omega, by rw [hgd]; omega⟩).trans (by rw [hgd])
  have HR := Lib.hid hr
  have hcap := s1.2.1
  have hc1 : ¬ c1 = 1 := by omega
  have hne : g ≠ w.heap.size := fun e => by
   rw [e] at hc0
   rw [HF1.out.cell off] at hc0
   have : off = 0 ∨ off = 1 := by
    have := (Array.getElem?_eq_some_iff.1 hc0).1
    simp at this
    omega
   rcases this with h | h <;> (rw [h] at hc0; simp at hc0)
  have S1 := Lib.hid (s1.drop 1 (by omega))
  have hm1I : (1 : Int) ≤ (m1 : Int) := by omega
  have hm0I : (0 : Int) < (m1 : Int) := by omega
  clear ho s1 hr hl1 hc hgd hx0
  go_upto_region 4 with fail
  go_region
  go_wp2
  have hfin : RtuPost w (readR b) (.returned (.tuple #[.agg #[.int .i64 x0, .slice (some ⟨g, off + 1, none⟩) (m1 - 1) (c1 - 1)], .int .i64 0])) (((w1.setCell ⟨w.heap.size, 0, none⟩ (.int .i64 x0)).setCell ⟨w.heap.size, 1, none⟩ (.slice (some ⟨g, off + 1, none⟩) (m1 - 1) (c1 - 1))).drew) := by
   rw [HR.out]
   exact ⟨_, _, _, rfl, S1.out.far2 hne _ _, ((hb1.setCell (p := ⟨w.heap.size, 0, none⟩) (Nat.le_refl _) _).setCell (p := ⟨w.heap.size, 1, none⟩) (Nat.le_refl _) _).drew⟩
  exact bodyPost_ret (results_cellT rfl _ _ _ _ _ _ _ (by kernel_rfl) (by kernel_rfl) (show Held (((w1.setCell ⟨w.heap.size, 0, none⟩ (.int .i64 x0)).setCell ⟨w.heap.size, 1, none⟩ (.slice (some ⟨g, off + 1, none⟩) (m1 - 1) (c1 - 1))).drew) w.heap.size 64 _ from (rset2 HF1.out (.int .i64 x0) (.slice (some ⟨g, off + 1, none⟩) (m1 - 1) (c1 - 1))).drew) Tryd.underlying64 (by kernel_rfl) (by kernel_rfl)) rfl hfin
def rtuB (unit : Int) (zs : List Int) : Option (List Int) := if (0 ≤ unit ∧ unit ≤ 247) ∧ 1 ≤ zs.length ∧ zs.length ≤ 253 then some (rtuL unit zs) else none
def RbPost (w : World) (o : Option (List Int)) (e : Ending) (w' : World) : Prop := ∃ A n c, e = .returned (.tuple #[.slice A n c, .int .i64 (if o.isSome then 0 else 200)]) ∧ SlI w' w'.heap.size .u8 A n c (o.getD []) ∧ Below w.heap.size w w' ∧ (o = none → A = none)
theorem rb_none {w w' : World} {o : Option (List Int)} (h : o = none) (hb : Below w.heap.size w w') : RbPost w o (.returned (.tuple #[.slice none 0 0, .int .i64 200])) w' := by
 subst h
 exact ⟨none, 0, 0, rfl, SlI.nil _ _ _, hb, fun _ => rfl⟩
theorem rb_some {w w' : World} {o : Option (List Int)} {xs : List Int} {A : Option Addr} {n c : Nat} (h : o = some xs) (hs : SlI w' w'.heap.size .u8 A n c xs) (hb : Below w.heap.size w w') : RbPost w o (.returned (.tuple #[.slice A n c, .int .i64 0])) w' := by
 subst h
 exact ⟨A, n, c, rfl, hs, hb, fun h => by cases h⟩
theorem rtuo_any (unit : Int) (hu : 0 ≤ unit ∧ unit ≤ 247) (A : Option Addr) (n c : Nat) (zs : List Int) (w : World) (hS : SlI w w.heap.size .u8 A n c zs) (hn : 1 ≤ n ∧ n ≤ 253) (hbs : ∀ x ∈ zs, 0 ≤ x ∧ x < 256) :
  Calls Tryd.prog 28 #[.agg #[.int .i64 unit, .slice A n c]] w fun e w' => ∃ v, e = .returned (.tuple #[v, .int .i64 0]) ∧ w'.ownsRow w.heap.size 5 1 v (n + 3) ((rtuL unit zs).map (Value.int .u8)) ∧ Below w.heap.size w w' := by
 obtain ⟨i0, hi, hz0, hz1, hz2⟩ := info_parts infoB
 obtain ⟨hu0, hu1⟩ := hu
 obtain ⟨hn0, hn1⟩ := hn
 have hw : unit % 256 = unit := by omega
 obtain ⟨w1, hw1⟩ : ∃ Y : World, (w.alloc (.cells #[.int .i64 unit, .slice A n c] 64)).alloc (.cells #[.int .u8 unit] 5) = Y := ⟨_, rfl⟩
 have hb1 := zB2 hw1
 have o1 : w1.ownsRow w.heap.size 5 1 (.slice (some ⟨w.heap.size + 1, 0, none⟩) 1 1) 1 ([unit].map (Value.int .u8)) := by
  rw [← hw1]
  have h : ((w.alloc (.cells #[.int .i64 unit, .slice A n c] 64)).alloc (.cells #[.int .u8 unit] 5)).ownsRow w.heap.size 5 1 (.slice (some ⟨(w.alloc (.cells #[.int .i64 unit, .slice A n c] 64)).heap.size, 0, none⟩) 1 1) 1 ([unit].map (Value.int .u8)) := World.ownsRow_lit _ #[.int .u8 unit] 1 (by simp) (by unfold maxLen; omega) rfl
  simpa using h
 have x1 : Held w1 w.heap.size 64 #[.int .i64 unit, .slice A n c] := by rw [← hw1]; exact (Held.new w _ _).alloc _
 have s1 := hS.up hb1
 have hz := hb1.size
 have HA1 := Lib.hid (show 1 + n ≤ maxLen ∧ (1 + n) * 1 ≤ 140737488355328 by unfold maxLen; omega)
 have hI1 : ((n : Int) < 1) = False := by simp; omega
 have hI2 : (253 < (n : Int)) = False := by simp; omega
 have HC := Lib.hid (fun (V : World) (A' : Option Addr) (c' : Nat) (h : SlI V V.heap.size .u8 A' (1 + n) c' (unit :: zs)) => seal_any A' (1 + n) c' (unit :: zs) V h (by omega) (fun x hx => by
  rcases List.mem_cons.1 hx with rfl | hx
  ·omega
  ·exact hbs x hx))
 have HL := Lib.hid (rtuL_len unit zs)
 have c0 := x1.cell 0
 have c1 := x1.cell 1
 simp only [List.getElem?_toArray, List.getElem?_cons_zero, List.getElem?_cons_succ] at c0 c1
 clear hS
 go_in
 go_wp2_with ((with_reducible refine at_append ?_); refine wpList_append_sl w1 rfl (.tmp 27) (.tmp 29) 22 rfl w.heap.size 5 i0 (.int .u8 0) 1 Tryd.underlying22 hi hz0 hz1 hz2 rfl _ 1 _ rfl o1 w1.heap.size .u8 A n c zs rfl s1 HA1.out.1 HA1.out.2 hz ?_; intro v2 w2 hO2 hg2 _; have hb2 := hb1.grown hg2 hz (fun B hB => (o1.lt B hB).1); clear hg2)
 obtain ⟨A2, c2, rfl, hs2⟩ := SlI.of_own (xs := unit :: zs) hO2
 refine (HC.out _ _ _ hs2).mono ?_
 rintro e w3 ⟨v3, rfl, o3, hb3⟩
 have hb4 := hb2.trans (hb3.mono hb2.size)
 rw [show 1 + n + 2 = n + 3 by omega] at o3
 have O3 := Lib.hid (own_base o3 hb2.size)
 obtain ⟨A3, c3, rfl, _⟩ := SlI.of_own o3
 clear o3 hb3 hs2 hO2 c0 c1 x1
 go_wp2_with fail
 go_ret2
 exact ⟨_, rfl, O3.out, hb4⟩
def RboPost (w : World) (o : Option (List Int)) (e : Ending) (w' : World) : Prop := ∃ v n, e = .returned (.tuple #[v, .int .i64 (if o.isSome then 0 else 200)]) ∧ w'.ownsRow w.heap.size 5 1 v n ((o.getD []).map (Value.int .u8)) ∧ Below w.heap.size w w'
theorem rtuf_any (unit : Int) (A : Option Addr) (n c : Nat) (zs : List Int) (w : World) (hS : SlI w w.heap.size .u8 A n c zs) (h8 : Byte8 zs) :
  Calls Tryd.prog 28 #[.agg #[.int .i64 unit, .slice A n c]] w (RbPost w (rtuB unit zs)) := by
 have hl := hS.1
 by_cases hv : (0 ≤ unit ∧ unit ≤ 247) ∧ 1 ≤ n ∧ n ≤ 253
 ·refine (rtu_any unit hv.1 A n c zs w hS hv.2 h8).mono ?_
  rintro e w' ⟨A', c', rfl, s', b', _⟩
  exact rb_some (by unfold rtuB; rw [if_pos (by rw [hl]; exact hv)]) s' b'
 ·have hno : rtuB unit zs = none := by unfold rtuB; rw [if_neg (by rw [hl]; exact hv)]
  obtain ⟨w1, hw1⟩ : ∃ Y : World, w.alloc (.cells #[.int .i64 unit, .slice A n c] 64) = Y := ⟨_, rfl⟩
  have hb1 := zB1 hw1
  have x1 := zH1 hw1
  have c0 : w1.cell? ⟨w.heap.size, 0, none⟩ = some (.int .i64 unit) := x1.cell 0
  have c1 : w1.cell? ⟨w.heap.size, 1, none⟩ = some (.slice A n c) := x1.cell 1
  have hlt := x1.lt
  have HNO := Lib.hid hno
  clear hS hno x1
  by_cases u0 : unit < 0
  ·have d0 : decide (unit < 0) = true := decide_eq_true u0
   clear hv
   go_in
   go_wp2_with fail
   go_ret2
   exact rb_none HNO.out hb1
  have d0 : decide (unit < 0) = false := decide_eq_false u0
  by_cases u1 : 247 < unit
  ·have d1 : decide (247 < unit) = true := decide_eq_true u1
   clear hv
   go_in
   go_wp2_with fail
   go_ret2
   exact rb_none HNO.out hb1
  have d1 : decide (247 < unit) = false := decide_eq_false u1
  by_cases u2 : n < 1
  ·have d2 : decide ((n : Int) < 1) = true := decide_eq_true (by omega)
   clear hv
   go_in
   go_wp2_with fail
   go_ret2
   exact rb_none HNO.out hb1
  have d2 : decide ((n : Int) < 1) = false := decide_eq_false (by omega)
  have d3 : decide ((253 : Int) < (n : Int)) = true := decide_eq_true (by omega)
  clear hv
  go_in
  go_wp2_with fail
  go_ret2
  exact rb_none HNO.out hb1
theorem rtufo_any (unit : Int) (A : Option Addr) (n c : Nat) (zs : List Int) (w : World) (hS : SlI w w.heap.size .u8 A n c zs) (h8 : Byte8 zs) :
  Calls Tryd.prog 28 #[.agg #[.int .i64 unit, .slice A n c]] w (RboPost w (rtuB unit zs)) := by
 have hl := hS.1
 by_cases hv : (0 ≤ unit ∧ unit ≤ 247) ∧ 1 ≤ n ∧ n ≤ 253
 ·refine (rtuo_any unit hv.1 A n c zs w hS hv.2 h8).mono ?_
  rintro e w' ⟨v, rfl, o', b'⟩
  have e1 : rtuB unit zs = some (rtuL unit zs) := by unfold rtuB; rw [if_pos (by rw [hl]; exact hv)]
  rw [e1]
  exact ⟨v, n + 3, rfl, o', b'⟩
 ·have hno : rtuB unit zs = none := by unfold rtuB; rw [if_neg (by rw [hl]; exact hv)]
  refine (rtuf_any unit A n c zs w hS h8).mono ?_
  rintro e w' ⟨A', n', c', rfl, s', b', hn⟩
  obtain rfl := hn hno
  obtain ⟨rfl, rfl⟩ := s'.2.2.2.1 rfl
  rw [hno]
  exact ⟨_, 0, rfl, World.ownsRow_nil _ _ _ _, b'⟩
end Go.Proofs.YtcipleanckeoaaaDoor
