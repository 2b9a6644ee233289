/- bus.Play at any tick; a script's Left and Next. -/
import Derived.Test.YtcipleanckeoaaaDoorYBusPlay
import Derived.Test.YtcipleanckeoaaaDoorYTk
import Derived.Test.YtcipleanckeoaaaDoorYBusNewM
import Derived.Test.YtcipleanckeoaaaDoorYBusPiecesW
import Derived.Laws.OwnMore
import Derived.LoopN
import Derived.Lib.Hide
import Derived.Deep.Cut
set_option maxRecDepth 100000
set_option maxHeartbeats 40000000
namespace Go.Proofs.YtcipleanckeoaaaDoor
open Go.RowKit
attribute [local go_sem] Oper.semAt_some
set_option linter.unusedVariables false
set_option linter.unusedSimpArgs false
theorem infoAct : (Tryd.prog.info? 29).map (fun i => (i.zero, i.size, i.bytes)) = some (some (.agg #[.int .i64 0, .int .i64 0, .int .i64 0, .slice none 0 0, .int .i64 0, .int .i64 0, .int .i64 0, .int .u8 0, .slice none 0 0]), 9, 104) := by kernel_rfl
theorem infoActs : (Tryd.prog.info? 25).map (fun i => (i.zero, i.size, i.bytes)) = some (some (.slice none 0 0), 1, 24) := by kernel_rfl
def allM (ll : List (List ActP)) : Bool := ll.all fun l => l.all mayA
theorem allM_take (ll : List (List ActP)) (i : Nat) (l : List ActP) (h : ll[i]? = some l) : allM (ll.take (i + 1)) = (allM (ll.take i) && l.all mayA) := by
 unfold allM
 rw [List.take_add_one, h, List.all_append]; simp
theorem allM_no (ll : List (List ActP)) (i k : Nat) (l : List ActP) (h : ll[i]? = some l) (a : ActP) (ha : l[k]? = some a) (hm : mayA a = false) : allM ll = false := by
 unfold allM
 cases hb : ll.all fun l => l.all mayA with
 | false => rfl
 | true =>
  have h1 := List.all_eq_true.mp (List.all_eq_true.mp hb l (List.mem_of_getElem? h)) a (List.mem_of_getElem? ha)
  rw [hm] at h1; cases h1
def NewPost (w : World) (ll : List (List ActP)) (e : Ending) (w' : World) : Prop := Below w.heap.size w w' ∧ (allM ll = true → ∃ g, e = .returned (.tuple #[.pointer (some ⟨g, 0, none⟩), .int .i64 0]) ∧ ScrI w' g ll ∧ w.heap.size ≤ g) ∧ (allM ll = false → e = .returned (.tuple #[.pointer none, .int .i64 220]))
theorem new_any (L : Option Addr) (nL cL : Nat) (ll : List (List ActP)) (w : World) (hN : NamesT w) (hA : LsI w L nL cL ll) (hok : ∀ l ∈ ll, ActsOk l) (h6 : nL ≤ 6) (hs : ∀ l ∈ ll, l.length ≤ 20 ∧ l.all okA = true) :
  Calls Tryd.prog 12 #[.slice L nL cL] w (NewPost w ll) := by
 obtain ⟨w1, hw1⟩ : ∃ W, w.alloc (.cells #[.slice none 0 0] 102) = W := ⟨_, rfl⟩
 have b1 := zB1 hw1
 have hX1 := zH1 hw1
 have HWE1 := Lib.hid hw1
 have HX1 := Lib.hid hX1
 have HB1 := Lib.hid b1
 have hll := hA.1
 have HA := Lib.hid (fun (V : World) (h : Below w.heap.size w V) => hA.up h)
 have HCK := Lib.hid (fun (v : Value) (a : ActP) (V : World) (h : Below w.heap.size w V) (h1 : ActAt V v a) (h2 : a.ok) => bcheck_any v a V (hN.up h) h1 h2)
 have HOK := Lib.hid hok
 have HSZ := Lib.hid hs
 obtain ⟨iA, hiA, hzA0, hzA1, hzA2⟩ := info_parts infoAct
 obtain ⟨iL, hiL, hzL0, hzL1, hzL2⟩ := info_parts infoActs
 clear hw1 hX1 b1 hN hA hok hs
 go_in
 go_upto_region 2 with fail
 rw [HWE1.out]
 go_wp2_with fail
 go_loopw [15] (fun u15 W => ∃ (W0 : World) (i : Nat) (v : Value), W0 = W ∧ i ≤ nL ∧ u15 = .int .i64 i ∧ allM (ll.take i) = true ∧ Held W0 w.heap.size 102 #[v] ∧ OutI W0 (w.heap.size + 1) v i (ll.take i) ∧ Below w.heap.size w W0) (fun u15 _ => nL - (intOf u15).toNat)
 case atStart => exact ⟨_, 0, _, rfl, by omega, rfl, rfl, HX1.out, OutI.nil _ _, HB1.out⟩
 case round =>
  obtain ⟨W, i, v, hWe, hi, rfl, hall, hX, hO, hb⟩ := hrel
  subst hWe
  have HAL := Lib.hid hall
  have HX := Lib.hid hX
  have HO := Lib.hid hO
  have HB := Lib.hid hb
  have hzw := hX.lt
  clear hall hX hO
  by_cases hlt : i < nL
  ·obtain ⟨l, hl⟩ : ∃ l, ll[i]? = some l := ⟨_, List.getElem?_eq_getElem (by omega)⟩
   obtain ⟨g, off, rfl, hg, hc⟩ := (HA.out W hb).2.2.2.2 (by omega)
   obtain ⟨A, m, c', kc, ka⟩ := hc i l hl
   have hltI : decide ((i : Int) < (nL : Int)) = true := decide_eq_true (by omega)
   have hltN : decide (i < nL) = true := decide_eq_true (by omega)
   have hml := ka.1
   have hm20 : m ≤ 20 := by rw [← hml]; exact (HSZ.out l (List.mem_of_getElem? hl)).1
   have HKA := Lib.hid (fun (V : World) (h : Below W.heap.size W V) => ka.up h)
   have HL := Lib.hid hl
   clear hc ka hl hb
   go_wp2_with fail
   go_loopw [7, 21] (fun u7 u21 X => ∃ (X0 : World) (k : Nat), X0 = X ∧ k ≤ m ∧ u21 = .int .i64 k ∧ (l.take k).all mayA = true ∧ OwnA X0 W.heap.size u7 k (l.take k) ∧ Below W.heap.size W X0) (fun _ u21 _ => m - (intOf u21).toNat)
   case atStart => exact ⟨_, 0, rfl, by omega, rfl, rfl, OwnA.nil _ _, Below.refl _ _⟩
   case round =>
    obtain ⟨X, k, hXe, hk, rfl, hka, hown, hxb⟩ := hrel
    subst hXe
    have HKL := Lib.hid hka
    have HXB := Lib.hid hxb
    have hxz := hxb.size
    clear hka
    by_cases hlt2 : k < m
    ·obtain ⟨a, ha⟩ : ∃ a, l[k]? = some a := ⟨_, List.getElem?_eq_getElem (by omega)⟩
     obtain ⟨g2, off2, rfl, hg2, hc2⟩ := (HKA.out X hxb).2.2.2.2 (by omega)
     obtain ⟨Ar, nr, cr, D, nd, cd, k1, k2, k3⟩ := hc2 k a ha
     obtain ⟨c0, c1, c2, c3, c4, c5, c6, c7, c8⟩ := act_cells k1
     have hsz := List.all_eq_true.mp (HSZ.out l (List.mem_of_getElem? HL.out)).2 a (List.mem_of_getElem? ha)
     have hok := HOK.out l (List.mem_of_getElem? HL.out) a (List.mem_of_getElem? ha)
     have hltI2 : decide ((k : Int) < (m : Int)) = true := decide_eq_true (by omega)
     have hltN2 : decide (k < m) = true := decide_eq_true (by omega)
     obtain ⟨V, hV⟩ : ∃ Y, X.alloc (.cells (a.cells Ar nr cr D nd cd) 29) = Y := ⟨_, rfl⟩
     have hb1 := zB1 hV
     have hXV := zH1 hV
     have hwV : Below w.heap.size w V := HB.out.trans ((hxb.trans (hb1.mono hxz)).mono HB.out.size)
     have HC := Lib.hid (HCK.out (.agg (a.cells Ar nr cr D nd cd)) a V hwV ⟨Ar, nr, cr, D, nd, cd, rfl, k2.up hb1, k3.up hb1⟩ hok)
     have HTW := Lib.hid (fun (Y : World) (h : Below V.heap.size V Y) => twin_any a Ar nr cr D nd cd Y ((k2.up hb1).up h) ((k3.up hb1).up h) (by have := k2.1; unfold okA at hsz; simp at hsz; omega) (by have := k3.1; unfold okA at hsz; simp at hsz; omega))
     have HXV := Lib.hid hXV
     have HV := Lib.hid hV
     have HBV := Lib.hid hb1
     have HHA := Lib.hid ha
     unfold ActP.cells at HC HTW HXV HV
     have hXV := HXV.out
     have x0 : V.cell? ⟨X.heap.size, 0, none⟩ = some (.int .i64 a.kind) := hXV.cell 0
     have x1 : V.cell? ⟨X.heap.size, 1, none⟩ = some (.int .i64 a.wait) := hXV.cell 1
     have x2 : V.cell? ⟨X.heap.size, 2, none⟩ = some (.int .i64 a.gap) := hXV.cell 2
     have x3 : V.cell? ⟨X.heap.size, 3, none⟩ = some (.slice Ar nr cr) := hXV.cell 3
     have x4 : V.cell? ⟨X.heap.size, 4, none⟩ = some (.int .i64 a.code) := hXV.cell 4
     have x5 : V.cell? ⟨X.heap.size, 5, none⟩ = some (.int .i64 a.n) := hXV.cell 5
     have x6 : V.cell? ⟨X.heap.size, 6, none⟩ = some (.int .i64 a.unit) := hXV.cell 6
     have x7 : V.cell? ⟨X.heap.size, 7, none⟩ = some (.int .u8 a.wth) := hXV.cell 7
     have x8 : V.cell? ⟨X.heap.size, 8, none⟩ = some (.slice D nd cd) := hXV.cell 8
     clear hXV hc2 k1 k2 k3 hok hsz hwV hV
     obtain ⟨qs, q1, q2, q3, q4⟩ := hown
     have HQ := Lib.hid (And.intro q1 (And.intro q2 (And.intro q3 q4)))
     clear q1 q2 q3 q4 ha hb1
     obtain ⟨mb, hmb⟩ : ∃ b, mayA a = b := ⟨_, rfl⟩
     rw [hmb] at HC
     cases mb with
     | false =>
      rw [if_neg (by simp)] at HC
      have HNO := Lib.hid (allM_no ll i k l HL.out a HHA.out hmb)
      clear hmb
      go_upto_region 9 with fail
      rw [HV.out]
      clear c0 c1 c2 c3 c4 c5 c6 c7 c8
      go_wp2_with fail
      refine HC.out.mono ?_
      rintro e V2 ⟨rfl, b2⟩
      have HB2 := Lib.hid (HB.out.trans ((HXB.out.trans ((HBV.out.trans (b2.mono HBV.out.size)).mono HXB.out.size)).mono HB.out.size))
      clear b2
      go_wp2_with fail
      go_ret2
      exact ⟨HB2.out, fun h => (by rw [HNO.out] at h; cases h), fun _ => rfl⟩
     | true =>
      rw [if_pos rfl] at HC
      have HMB := Lib.hid hmb
      clear hmb
      go_upto_region 9 with fail
      rw [HV.out]
      clear c0 c1 c2 c3 c4 c5 c6 c7 c8
      go_wp2_with fail
      refine HC.out.mono ?_
      rintro e V2 ⟨rfl, b2⟩
      have hXV := HXV.out.below b2 HXV.out.lt
      have x0 : V2.cell? ⟨X.heap.size, 0, none⟩ = some (.int .i64 a.kind) := hXV.cell 0
      have x1 : V2.cell? ⟨X.heap.size, 1, none⟩ = some (.int .i64 a.wait) := hXV.cell 1
      have x2 : V2.cell? ⟨X.heap.size, 2, none⟩ = some (.int .i64 a.gap) := hXV.cell 2
      have x3 : V2.cell? ⟨X.heap.size, 3, none⟩ = some (.slice Ar nr cr) := hXV.cell 3
      have x4 : V2.cell? ⟨X.heap.size, 4, none⟩ = some (.int .i64 a.code) := hXV.cell 4
      have x5 : V2.cell? ⟨X.heap.size, 5, none⟩ = some (.int .i64 a.n) := hXV.cell 5
      have x6 : V2.cell? ⟨X.heap.size, 6, none⟩ = some (.int .i64 a.unit) := hXV.cell 6
      have x7 : V2.cell? ⟨X.heap.size, 7, none⟩ = some (.int .u8 a.wth) := hXV.cell 7
      have x8 : V2.cell? ⟨X.heap.size, 8, none⟩ = some (.slice D nd cd) := hXV.cell 8
      have HT2 := Lib.hid (HTW.out V2 b2)
      have HB2 := Lib.hid (HBV.out.trans (b2.mono HBV.out.size))
      clear b2 hXV
      go_wp2_with fail
      refine HT2.out.mono ?_
      rintro e V3 ⟨A1, n1, c1, A2, n2, c2, rfl, s1, s2, t1, t2, b3⟩
      unfold ActP.cells
      have hB3 : Below X.heap.size X V3 := HB2.out.trans (b3.mono HB2.out.size)
      have hba := hB3.alloc hB3.size (.cells #[.int .i64 a.kind, .int .i64 a.wait, .int .i64 a.gap, .slice A1 n1 c1, .int .i64 a.code, .int .i64 a.n, .int .i64 a.unit, .int .u8 a.wth, .slice A2 n2 c2] 29)
      obtain ⟨r1, r2, r3, r4⟩ := HQ.out
      have ho4 := lown_up r3 hba
      have hst : ArgT V3 a A1 n1 c1 A2 n2 c2 := ⟨s1, s2, t1, t2⟩
      have HST := Lib.hid (hst.up ((Below.refl V3.heap.size V3).alloc (Nat.le_refl _) (.cells #[.int .i64 a.kind, .int .i64 a.wait, .int .i64 a.gap, .slice A1 n1 c1, .int .i64 a.code, .int .i64 a.n, .int .i64 a.unit, .int .u8 a.wth, .slice A2 n2 c2] 29)))
      have HQ4 := Lib.hid (fun q hq => (r4 q hq).up hba)
      have hzz := hB3.size
      have hk20 : (k + 1) * 104 ≤ 140737488355328 := by omega
      clear s1 s2 t1 t2 b3 hst r3 r4 x0 x1 x2 x3 x4 x5 x6 x7 x8
      go_wp2_with ((with_reducible refine at_append ?_); refine wpList_append_own _ rfl _ _ 25 rfl W.heap.size 29 iA (.agg #[.int .i64 0, .int .i64 0, .int .i64 0, .slice none 0 0, .int .i64 0, .int .i64 0, .int .i64 0, .int .u8 0, .slice none 0 0]) 9 104 Tryd.underlying25 hiA hzA0 hzA1 hzA2 rfl (by decide) _ _ _ rfl ho4 ⟨V3.heap.size, 0, none⟩ 1 1 [.int .i64 a.kind, .int .i64 a.wait, .int .i64 a.gap, .slice A1 n1 c1, .int .i64 a.code, .int .i64 a.n, .int .i64 a.unit, .int .u8 a.wth, .slice A2 n2 c2] rfl rfl (World.news_of_block (cs := #[.int .i64 a.kind, .int .i64 a.wait, .int .i64 a.gap, .slice A1 n1 c1, .int .i64 a.code, .int .i64 a.n, .int .i64 a.unit, .int .u8 a.wth, .slice A2 n2 c2]) (t := 29) (fr := (0, 0)) (heap_alloc_new V3 _)) (by simp [Value.oneCell']) (by unfold maxLen; omega) (by omega) (by simp; omega) ?_; intro v6 w6 o6 g6 _)
      go_roundw
      case rel =>
       refine ⟨_, k + 1, rfl, by omega, by go_num, by rw [all_take l k a HHA.out mayA, HKL.out, HMB.out]; rfl, ?_, HXB.out.trans ((hba.mono hxz).grown g6 (by simp; omega) (fun j hj => (ho4.lt j hj).1))⟩
       have h := OwnA.app (a := a) HQ.out.2.1 ho4 HQ4.out HST.out g6 o6
       rw [HQ.out.1] at h
       rwa [show l.take (k + 1) = l.take k ++ [a] by rw [List.take_add_one, HHA.out, Option.toList_some]]
      case measure => simp [intOf]; omega
    ·obtain rfl : k = m := by omega
     have hltI2 : decide ((k : Int) < (k : Int)) = false := decide_eq_false (by omega)
     rw [show l.take k = l from List.take_of_length_le (by omega)] at hown HKL
     obtain ⟨A5, c5, rfl, hT5⟩ := hown.acts
     have hX5 := HX.out.below hxb HX.out.lt
     obtain ⟨ss, q1, q2, q3, q4⟩ := HO.out.up hxb
     have x0 : X.cell? ⟨w.heap.size, 0, none⟩ = some v := hX5.cell 0
     have hlt5 := hX5.lt
     have HX5 := Lib.hid (hX5.alloc (.cells #[.slice A5 k c5] 25))
     have hba := (Below.refl X.heap.size X).alloc (Nat.le_refl _) (.cells #[.slice A5 k c5] 25)
     have ho4 := lown_up q3 hba
     have HQ4 := Lib.hid (fun j s l e1 e2 => (q4 j s l e1 e2).up hba)
     have HT5 := Lib.hid (hT5.up hba)
     have hst := ho4
     have HWB := Lib.hid (HB.out.trans ((hxb.trans (hba.mono hxz)).mono HB.out.size))
     have hi6 : (i + 1) * 24 ≤ 140737488355328 := by omega
     clear q3 q4 hT5 hown hX5
     go_wp2_with ((with_reducible refine at_append ?_); refine wpList_append_own _ rfl _ _ 23 rfl (w.heap.size + 1) 25 iL (.slice none 0 0) 1 24 Tryd.underlying23 hiL hzL0 hzL1 hzL2 rfl (by decide) _ _ _ rfl ho4 ⟨X.heap.size, 0, none⟩ 1 1 [.slice A5 k c5] rfl rfl (World.news_of_block (cs := #[.slice A5 k c5]) (t := 25) (fr := (0, 0)) (heap_alloc_new X _)) (by simp [Value.oneCell']) (by unfold maxLen; omega) (by omega) (by simp; omega) ?_; intro v6 w6 o6 g6 _; obtain ⟨A6, c6, rfl, _, _⟩ := own_form o6; have hX6 := HX5.out.kept g6 (HX5.out.not_row (by decide) ho4); have x60 : w6.cell? ⟨w.heap.size, 0, none⟩ = some v := hX6.cell 0; have f60 := hX6.frozen 0; have hl6 := hX6.lt)
     have hoo := OutI.app q1 q2 ho4 HQ4.out HT5.out g6 o6
     have hbb := (HWB.out.grown g6 (by have := HWB.out.size; omega) (fun j hj => by have := (ho4.lt j hj).1; omega)).setCell (p := ⟨w.heap.size, 0, none⟩) (Nat.le_refl _) (.slice A6 (i + 1) c6)
     have HALL := Lib.hid (show allM (ll.take (i + 1)) = true by rw [allM_take ll i l HL.out, HAL.out, HKL.out]; rfl)
     have hoo2 := hoo.kt (KT.set hX6 0 (.slice A6 (i + 1) c6)) (by decide) (by decide) (by decide) (by decide)
     rw [show ll.take i ++ [l] = ll.take (i + 1) by rw [List.take_add_one, HL.out, Option.toList_some]] at hoo2
     have HFI := Lib.hid (And.intro (hX6.set 0 (.slice A6 (i + 1) c6)) (And.intro hoo2 hbb))
     clear hoo hoo2 hbb
     go_roundw
     case rel => exact ⟨_, i + 1, _, rfl, by omega, by go_num, HALL.out, HFI.out.1, HFI.out.2.1, HFI.out.2.2⟩
     case measure => simp [intOf]; omega
  ·obtain rfl : i = nL := by omega
   have hltI : decide ((i : Int) < (i : Int)) = false := decide_eq_false (by omega)
   have hTk : ll.take i = ll := List.take_of_length_le (by omega)
   obtain ⟨Ls, cs, rfl, hls⟩ := HO.out.ls
   rw [hTk] at hls
   have HFI := Lib.hid (show NewPost w ll (.returned (.tuple #[.pointer (some ⟨w.heap.size, 0, none⟩), .int .i64 0])) W from ⟨hb, fun _ => ⟨_, rfl, ⟨Ls, i, cs, HX.out, hls⟩, Nat.le_refl _⟩, fun h => by have := HAL.out; rw [hTk, h] at this; cases this⟩)
   clear hls hb
   go_wp2_with fail
   go_ret2
   exact HFI.out
def okT (t : Int) : Prop := 0 ≤ t ∧ t ≤ 2305843009213693952
instance (t : Int) : Decidable (okT t) := by unfold okT; infer_instance
def tE (t : Int) : Int := if okT t then 0 else 2
def PlayR (t : Int) (req : List Int) (l : List ActP) (rs : List (Int × List Int)) : Prop := (okT t → SortedOf (playL t req l) rs) ∧ (¬ okT t → rs = [])
theorem PlayR.one {t : Int} {req : List Int} {l : List ActP} {rs rs' : List (Int × List Int)} (h : PlayR t req l rs) (h' : PlayR t req l rs') : rs = rs' := by
 by_cases q : okT t
 ·exact (h.1 q).one (h'.1 q)
 ·rw [h.2 q, h'.2 q]
def PlPost (w : World) (t : Int) (req : List Int) (l : List ActP) (e : Ending) (w' : World) : Prop := ∃ R nr cr rs, e = .returned (.tuple #[.slice R nr cr, .int .i64 (tE t)]) ∧ PcsI w' R nr cr rs ∧ PlayR t req l rs ∧ Below w.heap.size w w'
theorem play_any (t : Int) (A : Option Addr) (n c : Nat) (req : List Int) (L : Option Addr) (nl cl : Nat) (l : List ActP) (w : World) (hT : LimT w) (hN : NamesT w) (hS : SlI w w.heap.size .u8 A n c req) (hn : n ≤ 1000) (h8 : Byte8 req) (hA : ActsI w L nl cl l) (hok : ActsOk l) (h20 : nl ≤ 20) (hm : l.all mayA = true) :
  Calls Tryd.prog 13 #[.int .i64 t, .slice A n c, .slice L nl cl] w (PlPost w t req l) := by
 by_cases q : okT t
 ·refine (callsIn_wide.1 (play_ok t A n c req L nl cl l w hT hN hS hn h8 hA hok h20 q hm)).mono ?_
  rintro e w' ⟨R, nr, cr, rs, rfl, h1, h2, h3⟩
  exact ⟨R, nr, cr, rs, by rw [tE, if_pos q], h1, ⟨fun _ => h2, fun h => absurd q h⟩, h3⟩
 ·refine (play_arg t A n c L nl cl w (by unfold okT at q; omega)).mono ?_
  rintro e w' ⟨rfl, h3⟩
  exact ⟨none, 0, 0, [], by rw [tE, if_neg q], PcsI.nil _, ⟨fun h => absurd h q, fun _ => rfl⟩, h3⟩
theorem left_any (g : Nat) (ll : List (List ActP)) (w : World) (h : ScrI w g ll) : Calls Tryd.prog 16 #[.pointer (some ⟨g, 0, none⟩)] w fun e w' => e = .returned (.int .i64 ll.length) ∧ w = w' := by
 obtain ⟨L, n, c, hX, hL⟩ := h
 have x0 : w.cell? ⟨g, 0, none⟩ = some (.slice L n c) := hX.cell 0
 have hl := hL.1
 rw [hl]
 clear hX hL hl
 go_in
 go_wp2_with fail
 go_ret
 exact ⟨rfl, rfl⟩
def NextPost (w : World) (g : Nat) (t : Int) (req : List Int) (ll : List (List ActP)) (e : Ending) (w' : World) : Prop := But g w w' ∧ ScrI w' g ll.tail ∧ ∃ R nr cr, e = .returned (.slice R nr cr) ∧ (ll = [] → nr = 0) ∧ ∀ l r, ll = l :: r → ∃ rs, PcsI w' R nr cr rs ∧ PlayR t req l rs
theorem LsT.tail {W : World} {g off n c : Nat} {l : List ActP} {r : List (List ActP)} (h : LsT W (some ⟨g, off, none⟩) n c (l :: r)) (L' : Addr) (hb : L'.block = g) (hL : 1 < n → L' = ⟨g, off + 1, none⟩) : LsT W (some L') (n - 1) (c - 1) r := by
 obtain ⟨h1, h2, h3, h4, ht, h5⟩ := h
 have h1' : r.length + 1 = n := by simpa using h1
 refine ⟨by omega, by omega, by omega, fun e => (by cases e), fun a e => ?_, fun hn => ?_⟩
 ·injection e with e
  subst e
  rw [hb]
  exact ht _ rfl
 ·obtain ⟨g', off', e, hc⟩ := h5 (by omega)
  injection e with e
  injection e with e1 e2
  subst e1 e2
  refine ⟨g, off + 1, by rw [hL (by omega)], fun i l hi => ?_⟩
  obtain ⟨A, m, c', k1, k2⟩ := hc (i + 1) l (by simpa using hi)
  exact ⟨A, m, c', by rw [show off + 1 + i = off + (i + 1) by omega]; exact k1, k2⟩
theorem next_any (g : Nat) (t : Int) (A : Option Addr) (n c : Nat) (req : List Int) (ll : List (List ActP)) (w : World) (HW : ∀ V, But g w V → LimT V ∧ NamesT V ∧ SlI V V.heap.size .u8 A n c req) (hn : n ≤ 1000) (h8 : Byte8 req) (hS : ScrI w g ll) (hok : ∀ l ∈ ll, ActsOk l ∧ l.length ≤ 20 ∧ l.all mayA = true) :
  Calls Tryd.prog 17 #[.pointer (some ⟨g, 0, none⟩), .int .i64 t, .slice A n c] w (NextPost w g t req ll) := by
 obtain ⟨L, nL, cL, hX, hL⟩ := hS
 have x0 : w.cell? ⟨g, 0, none⟩ = some (.slice L nL cL) := hX.cell 0
 have f0 := hX.frozen 0
 have hlt := hX.lt
 cases ll with
 | nil =>
  obtain rfl : nL = 0 := hL.1.symm
  have HFI := Lib.hid (show NextPost w g t req [] (.returned (.slice none 0 0)) w from ⟨But.refl _ _, ⟨L, 0, cL, hX, hL⟩, none, 0, 0, rfl, fun _ => rfl, fun l r h => by cases h⟩)
  clear hX hL HW hok
  go_in
  go_wp2_with fail
  go_ret
  exact HFI.out
 | cons l r =>
  have hl := hL.1
  have hl' : r.length + 1 = nL := by simpa using hl
  obtain ⟨gl, off, rfl, hc⟩ := hL.2.2.2.2.2 (by omega)
  obtain ⟨A1, m, c1, k1, k2⟩ := hc 0 l rfl
  rw [Nat.add_zero] at k1
  obtain ⟨ok1, ok2, ok3⟩ := hok l (by simp)
  have hncL := hL.2.1
  have hm := k2.1
  have HT := Lib.hid hL
  have d0 : ((nL : Int) == 0) = false := by simp; omega
  have d1 : (0 : Int) < (nL : Int) := by omega
  have HPL : Hid (∀ u : Value, ∀ V, V = w.setCell ⟨g, 0, none⟩ u → Calls Tryd.prog 13 #[.int .i64 t, .slice A n c, .slice A1 m c1] V (PlPost V t req l)) := Lib.hid (fun u V hV => by
   subst hV
   obtain ⟨w1, w2, w3⟩ := HW _ ((But.refl g w).set 0 u)
   exact play_any t A n c req A1 m c1 l _ w1 w2 w3 hn h8 (k2.kt (KT.set hX 0 u) (by decide) (by decide) (by decide)).acts ok1 (by omega) ok3)
  have HX := Lib.hid hX
  clear hX hL hc k2 HW hok ok1 ok2 ok3 hl
  go_in
  by_cases hc1 : cL = 1
  ·subst hc1
   obtain rfl : nL = 1 := by omega
   go_wp2_with fail
   refine (HPL.out _ _ rfl).mono ?_
   rintro e V ⟨R, nr, cr, rs, rfl, p1, p2, b⟩
   have hk := KT.set HX.out 0 (.slice (some ⟨gl, off, none⟩) 0 0)
   have hl2 : LsT w (some ⟨gl, off, none⟩) 0 0 r := HT.out.tail ⟨gl, off, none⟩ rfl (fun h => by omega)
   have hl3 := (hl2.kt hk (by decide) (by decide) (by decide) (by decide)).up b
   have hX3 := (HX.out.set 0 (.slice (some ⟨gl, off, none⟩) 0 0)).below b (by simpa using hlt)
   have HFI := Lib.hid (show NextPost w g t req (l :: r) (.returned (.slice R nr cr)) V from ⟨((But.refl g w).set 0 _).trans (But.of_below b), ⟨_, _, _, hX3, hl3⟩, R, nr, cr, rfl, fun h => (by cases h), fun l' r' h => by cases h; exact ⟨rs, p1, p2⟩⟩)
   clear p1 p2 b hk hl2 hl3 hX3
   go_wp2_with fail
   go_ret
   exact HFI.out
  ·have hc2 : (1 : Int) < (cL : Int) := by omega
   go_wp2_with fail
   refine (HPL.out _ _ rfl).mono ?_
   rintro e V ⟨R, nr, cr, rs, rfl, p1, p2, b⟩
   have hk := KT.set HX.out 0 (.slice (some ⟨gl, off + 1, none⟩) (nL - 1) (cL - 1))
   have hl2 : LsT w (some ⟨gl, off + 1, none⟩) (nL - 1) (cL - 1) r := HT.out.tail ⟨gl, off + 1, none⟩ rfl (fun _ => rfl)
   have hl3 := (hl2.kt hk (by decide) (by decide) (by decide) (by decide)).up b
   have hX3 := (HX.out.set 0 (.slice (some ⟨gl, off + 1, none⟩) (nL - 1) (cL - 1))).below b (by simpa using hlt)
   have HFI := Lib.hid (show NextPost w g t req (l :: r) (.returned (.slice R nr cr)) V from ⟨((But.refl g w).set 0 _).trans (But.of_below b), ⟨_, _, _, hX3, hl3⟩, R, nr, cr, rfl, fun h => (by cases h), fun l' r' h => by cases h; exact ⟨rs, p1, p2⟩⟩)
   clear p1 p2 b hk hl2 hl3 hX3
   go_wp2_with fail
   go_ret
   exact HFI.out
end Go.Proofs.YtcipleanckeoaaaDoor
