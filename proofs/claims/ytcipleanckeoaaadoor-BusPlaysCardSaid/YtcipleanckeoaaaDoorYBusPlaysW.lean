/- The law BusPlays: its walk. -/
import Derived.Test.YtcipleanckeoaaaDoorYBusRefP
import Derived.Test.YtcipleanckeoaaaDoorYTk
import Derived.Test.YtcipleanckeoaaaDoorYBusNext
import Derived.Test.YtcipleanckeoaaaDoorYPduFrom
import Derived.OrdersHeld
import Derived.Deep.RegionHeld
import Derived.LoopN
import Derived.Lib.Hide
import Derived.Deep.Cut
set_option maxRecDepth 100000
set_option maxHeartbeats 40000000
namespace Go.Proofs.YtcipleanckeoaaaDoor
open Go.RowKit
attribute [local go_sem] Oper.semAt_some
set_option linter.unusedVariables false
set_option linter.unusedSimpArgs false
theorem rsame_any (R1 : Option Addr) (n1 c1 : Nat) (R2 : Option Addr) (n2 c2 : Nat) (rs : List (Int × List Int)) (w : World) (h1 : PcsI w R1 n1 c1 rs) (h2 : PcsI w R2 n2 c2 rs) :
  Calls Tryd.prog 15 #[.slice R1 n1 c1, .slice R2 n2 c2] w fun e w' => e = .returned (.bool true) ∧ Below w.heap.size w w' := by
 have hl := h1.1
 have hmx : n1 ≤ 9223372036854775807 := Nat.le_trans h1.2.1 (by have := h1.2.2.1; unfold maxLen at this; exact this)
 obtain rfl : n2 = n1 := by rw [← h2.1, hl]
 have H1 := Lib.hid (fun (V : World) (h : Below w.heap.size w V) => h1.up h)
 have H2 := Lib.hid (fun (V : World) (h : Below w.heap.size w V) => h2.up h)
 clear h1 h2
 go_in
 go_wp2_with fail
 go_loopw [5] (fun u5 X => ∃ (X0 : World) (i : Nat), X0 = X ∧ i ≤ n2 ∧ u5 = .int .i64 i ∧ Below w.heap.size w X0) (fun u5 _ => n2 - (intOf u5).toNat)
 case atStart => exact ⟨_, 0, rfl, by omega, rfl, Below.refl _ _⟩
 case round =>
  obtain ⟨X, i, hXe, hi, rfl, hb⟩ := hrel
  subst hXe
  have HB := Lib.hid hb
  by_cases hlt : i < n2
  ·obtain ⟨z, hz⟩ : ∃ z, rs[i]? = some z := ⟨_, List.getElem?_eq_getElem (by omega)⟩
   obtain ⟨g1, rfl, hg1, k1⟩ := (H1.out X hb).2.2.2.2 (by omega)
   obtain ⟨D1, m1, e1, x0, x1, s1⟩ := k1 i z hz
   obtain ⟨g2, rfl, hg2, k2⟩ := (H2.out X hb).2.2.2.2 (by omega)
   obtain ⟨D2, m2, e2, y0, y1, s2⟩ := k2 i z hz
   obtain ⟨T, hT⟩ : ∃ b, strOfNums z.2 = b := ⟨_, rfl⟩
   have HK1 : Hid (∀ W, Below X.heap.size X W → (convert 22 9 (.slice D1 m1 e1)).run Tryd.prog W = .ok (.string T) W) := Lib.hid (fun W h => by rw [← hT]; exact conv_sli (s1.up h))
   have HK2 : Hid (∀ W, Below X.heap.size X W → (convert 22 9 (.slice D2 m2 e2)).run Tryd.prog W = .ok (.string T) W) := Lib.hid (fun W h => by rw [← hT]; exact conv_sli (s2.up h))
   have hltI : (i : Int) < (n2 : Int) := by omega
   have hzz : (z.1 != z.1) = false := by simp
   have hwr : wrap64 ((i : Int) + 1) = (i : Int) + 1 := by unfold wrap64; omega
   clear k1 k2 s1 s2 hz hb hT
   go_upto_region 6 with fail
   obtain ⟨wd6, hwd6⟩ : ∃ W : World, X.drew = W := ⟨_, rfl⟩
   have hS := zB3 hwd6
   refine wp_region_held (S := Below X.heap.size X) (by kernel_rfl) ?_
   change wpAnyH _ _ _ _ _ _ _ _ X.drew
   rw [hwd6]
   clear hwd6
   refine zU 0 rfl hS ?_
   refine zU 1 rfl hS ?_
   refine zU 2 rfl hS ?_
   refine zU 3 rfl hS ?_
   refine zU 4 rfl hS ?_ (hy := fun W hH => by
    have q0 := (hH.cell (p := ⟨g1, i * 2, none⟩) hg1).trans x0
    have q1 := (hH.cell (p := ⟨g1, i * 2 + 1, none⟩) hg1).trans x1
    have q2 := (hH.cell (p := ⟨g2, i * 2, none⟩) hg2).trans y0
    have q3 := (hH.cell (p := ⟨g2, i * 2 + 1, none⟩) hg2).trans y1
    go_simp
    with_reducible rfl)
   refine zU 5 rfl hS ?_
   refine zU 6 rfl hS ?_
   refine zU 7 rfl hS ?_
   refine zU 8 rfl hS ?_
   refine zU 9 rfl hS ?_ (hy := fun W hH => by
    have q0 := (hH.cell (p := ⟨g1, i * 2, none⟩) hg1).trans x0
    have q1 := (hH.cell (p := ⟨g1, i * 2 + 1, none⟩) hg1).trans x1
    have q2 := (hH.cell (p := ⟨g2, i * 2, none⟩) hg2).trans y0
    have q3 := (hH.cell (p := ⟨g2, i * 2 + 1, none⟩) hg2).trans y1
    go_simp
    with_reducible rfl)
   refine zU 10 rfl hS ?_
   refine zU 11 rfl hS ?_
   refine zU 12 rfl hS ?_
   refine zU 13 rfl hS ?_
   refine zU 14 rfl hS ?_
   refine zU 15 rfl hS ?_
   refine zU 16 rfl hS ?_ (hy := fun W hH => by
    have q0 := (hH.cell (p := ⟨g1, i * 2, none⟩) hg1).trans x0
    have q1 := (hH.cell (p := ⟨g1, i * 2 + 1, none⟩) hg1).trans x1
    have q2 := (hH.cell (p := ⟨g2, i * 2, none⟩) hg2).trans y0
    have q3 := (hH.cell (p := ⟨g2, i * 2 + 1, none⟩) hg2).trans y1
    go_simp
    with_reducible rfl)
   refine zU 17 rfl hS ?_ (hy := fun W hH => by
    have kp := HK1.out W hH
    go_simp
    with_reducible rfl)
   refine zU 18 rfl hS ?_
   refine zU 19 rfl hS ?_
   refine zU 20 rfl hS ?_
   refine zU 21 rfl hS ?_
   refine zU 22 rfl hS ?_ (hy := fun W hH => by
    have q0 := (hH.cell (p := ⟨g1, i * 2, none⟩) hg1).trans x0
    have q1 := (hH.cell (p := ⟨g1, i * 2 + 1, none⟩) hg1).trans x1
    have q2 := (hH.cell (p := ⟨g2, i * 2, none⟩) hg2).trans y0
    have q3 := (hH.cell (p := ⟨g2, i * 2 + 1, none⟩) hg2).trans y1
    go_simp
    with_reducible rfl)
   refine zU 23 rfl hS ?_ (hy := fun W hH => by
    have kp := HK2.out W hH
    go_simp
    with_reducible rfl)
   refine zU 24 rfl hS ?_
   refine zU 25 rfl hS ?_
   refine wpAnyH_done (by kernel_rfl) ?_ _
   go_wp2_with fail
   go_roundw
   case rel => exact ⟨_, i + 1, rfl, by omega, by go_num, HB.out.trans (hS.mono HB.out.size)⟩
   case measure => simp [intOf]; omega
  ·obtain rfl : i = n2 := by omega
   have hltI : ¬ ((i : Int) < (i : Int)) := by omega
   clear hb
   go_wp2_with fail
   go_ret
   exact ⟨rfl, HB.out⟩
theorem ne_of_int {w : World} {g k o : Nat} {t : TypeId} {A : Option Addr} {n c : Nat} {q : IntKind} {x : Int} (h : Held w g t #[.slice A n c]) (hx : w.cell? ⟨k, o, none⟩ = some (.int q x)) : k ≠ g := fun e => by
 subst e
 have := h.cell o
 rw [hx] at this
 match o, this with
 | 0, h => cases h
 | o + 1, h => cases h
theorem K8.but {w w' : World} {g : Nat} {t : TypeId} {A : Option Addr} {n c : Nat} (h : Held w g t #[.slice A n c]) (b : But g w w') : K8 w w' := ⟨b.size, fun k o x hx => b.2 k (ne_of_int h hx) (World.block_lt_of_cell? w _ hx)⟩
theorem PcsI.but {w w' : World} {g : Nat} {t : TypeId} {A : Option Addr} {n c : Nat} {R : Option Addr} {m d : Nat} {rs : List (Int × List Int)} (h : PcsI w R m d rs) (hh : Held w g t #[.slice A n c]) (b : But g w w') : PcsI w' R m d rs := by
 obtain ⟨h1, h2, h3, h4, h5⟩ := h
 refine ⟨h1, h2, h3, h4, fun hn => ?_⟩
 obtain ⟨gR, e, hg, hc⟩ := h5 hn
 have hne : gR ≠ g := by
  obtain ⟨z, hz⟩ : ∃ z, rs[0]? = some z := ⟨_, List.getElem?_eq_getElem (by omega)⟩
  obtain ⟨D, nd, cd, k1, _⟩ := hc 0 z hz
  exact ne_of_int hh k1
 refine ⟨gR, e, Nat.lt_of_lt_of_le hg b.size, fun i z hz => ?_⟩
 obtain ⟨D, nd, cd, k1, k2, k3⟩ := hc i z hz
 have hs := b.2 gR hne hg
 exact ⟨D, nd, cd, (World.cell?_of_block (a := ⟨gR, i * 2, none⟩) hs).trans k1, (World.cell?_of_block (a := ⟨gR, i * 2 + 1, none⟩) hs).trans k2, k3.k8 (K8.but hh b)⟩
theorem great_no {l : List ActP} (h : greatB l = false) : l.length ≤ 20 ∧ l.all okA = true := by
 unfold greatB at h
 cases h1 : decide (l.length ≤ 20) with
 | false => rw [h1] at h; cases h
 | true =>
  cases h2 : l.all okA with
  | false => rw [h1, h2] at h; cases h
  | true => exact ⟨of_decide_eq_true h1, rfl⟩
theorem ll_drop {α : Type} (l : List α) (i : Nat) (x : α) (h : l[i]? = some x) : l.drop i = x :: l.drop (i + 1) := by
 obtain ⟨hi, rfl⟩ := List.getElem?_eq_some_iff.1 h
 exact List.drop_eq_getElem_cons hi
theorem plays_any (t : Int) (A : Option Addr) (n c : Nat) (req : List Int) (L : Option Addr) (nL cL : Nat) (ll : List (List ActP)) (w : World) (hT : LimT w) (hN : NamesT w) (hS : SlI w w.heap.size .u8 A n c req) (h8 : Byte8 req) (hA : LsI w L nL cL ll) (hok : ∀ l ∈ ll, ActsOk l) :
  Calls Tryd.prog 3 #[.int .i64 t, .slice A n c, .slice L nL cL] w fun e w' => e = .returned (.bool true) ∧ Below w.heap.size w w' := by
 have hnS := hS.1
 have hll := hA.1
 by_cases hn : 300 < n
 ·have e1 : decide ((300 : Int) < (n : Int)) = true := decide_eq_true (by omega)
  have e2 : decide (300 < n) = true := decide_eq_true hn
  clear hA hS
  go_in
  go_wp2_with fail
  go_ret
  exact ⟨rfl, Below.refl _ _⟩
 have e1 : decide ((300 : Int) < (n : Int)) = false := decide_eq_false (by omega)
 have e2 : decide (300 < n) = false := decide_eq_false hn
 by_cases h6 : 6 < nL
 ·have e3 : decide ((6 : Int) < (nL : Int)) = true := decide_eq_true (by omega)
  have e4 : decide (6 < nL) = true := decide_eq_true h6
  clear hA hS
  go_in
  go_wp2_with fail
  go_ret
  exact ⟨rfl, Below.refl _ _⟩
 have e3 : decide ((6 : Int) < (nL : Int)) = false := decide_eq_false (by omega)
 have e4 : decide (6 < nL) = false := decide_eq_false h6
 have HA := Lib.hid (fun (V : World) (h : Below w.heap.size w V) => hA.up h)
 have HW := Lib.hid (fun (V : World) (h : Below w.heap.size w V) => (⟨hT.up h, hN.up h, hS.up h⟩ : LimT V ∧ NamesT V ∧ SlI V V.heap.size .u8 A n c req))
 have HNW := Lib.hid (fun (V : World) (h : Below w.heap.size w V) (hs : ∀ l ∈ ll, l.length ≤ 20 ∧ l.all okA = true) => new_any L nL cL ll V (hN.up h) (hA.up h) hok (by omega) hs)
 have HOK := Lib.hid hok
 have H8 := Lib.hid h8
 clear hT hN hS hA hok h8
 go_in
 go_wp2_with fail
 go_loopw [7, 8] (fun u7 u8 X => ∃ (X0 : World) (i : Nat), X0 = X ∧ i ≤ nL ∧ u8 = .int .i64 i ∧ u7 = .bool (allM (ll.take i)) ∧ (∀ l ∈ ll.take i, greatB l = false) ∧ Below w.heap.size w X0) (fun _ u8 _ => nL - (intOf u8).toNat)
 case atStart => exact ⟨_, 0, rfl, by omega, rfl, rfl, (fun l h => by cases h), Below.refl _ _⟩
 case round =>
  obtain ⟨X, i, hXe, hi, rfl, rfl, hgr, hb⟩ := hrel
  subst hXe
  have HGR := Lib.hid hgr
  have HB := Lib.hid hb
  clear hgr
  by_cases hlt : i < nL
  ·obtain ⟨l, hl⟩ : ∃ l, ll[i]? = some l := ⟨_, List.getElem?_eq_getElem (by omega)⟩
   obtain ⟨g, off, rfl, hg, hc⟩ := (HA.out X hb).2.2.2.2 (by omega)
   obtain ⟨A1, m, c1, kc, ka⟩ := hc i l hl
   have hml := ka.1
   have HGT := Lib.hid (great22_any A1 m c1 l X ka)
   have HKA := Lib.hid (fun (V : World) (h : Below X.heap.size X V) => ka.up h)
   have HL := Lib.hid hl
   have hltI : (i : Int) < (nL : Int) := by omega
   obtain ⟨G, hG⟩ : ∃ q, greatB l = q := ⟨_, rfl⟩
   rw [hG] at HGT
   clear hc ka hl
   cases G with
   | true =>
    rw [if_pos rfl] at HGT
    clear hG
    go_wp2_with fail
    refine HGT.out.mono ?_
    rintro e w' ⟨rfl, rfl⟩
    go_wp2_with fail
    go_ret
    exact ⟨rfl, HB.out⟩
   | false =>
    rw [if_neg (by simp)] at HGT
    have HGN := Lib.hid hG
    have hm20 : m ≤ 20 := by rw [← hml]; exact (great_no hG).1
    obtain ⟨p, hp⟩ : ∃ p, allM (ll.take i) = p := ⟨_, rfl⟩
    have HP := Lib.hid hp
    rw [hp]
    clear hG hp hb
    go_wp2_with fail
    refine HGT.out.mono ?_
    rintro e w' ⟨rfl, rfl⟩
    go_wp2_with fail
    go_loopw [7, 9] (fun u7 u9 Y => ∃ (Y0 : World) (k : Nat), Y0 = Y ∧ k ≤ m ∧ u9 = .int .i64 k ∧ u7 = .bool (p && (l.take k).all mayA) ∧ Below X.heap.size X Y0) (fun _ u9 _ => m - (intOf u9).toNat)
    case atStart => exact ⟨_, 0, rfl, by omega, rfl, by simp, Below.refl _ _⟩
    case round =>
     obtain ⟨Y, k, hYe, hk, rfl, rfl, hyb⟩ := hrel
     subst hYe
     have HYB := Lib.hid hyb
     have kc2 : Y.cell? ⟨g, off + i, none⟩ = some (.slice A1 m c1) := (hyb.cell (p := ⟨g, off + i, none⟩) hg).trans kc
     obtain ⟨q, hq⟩ : ∃ q, (p && (l.take k).all mayA) = q := ⟨_, rfl⟩
     have HQ := Lib.hid hq
     rw [hq]
     clear hq
     by_cases hlt2 : k < m
     ·obtain ⟨a, ha⟩ : ∃ a, l[k]? = some a := ⟨_, List.getElem?_eq_getElem (by omega)⟩
      obtain ⟨g2, off2, rfl, hg2, hc2⟩ := (HKA.out Y hyb).2.2.2.2 (by omega)
      obtain ⟨Ar, nr, cr, D, nd, cd, k1, k2, k3⟩ := hc2 k a ha
      obtain ⟨c0, c1', c2, c3, c4, c5, c6, c7, c8⟩ := act_cells k1
      have HMY := Lib.hid (rmay_any (.agg (a.cells Ar nr cr D nd cd)) a Y ⟨Ar, nr, cr, D, nd, cd, rfl, k2, k3⟩ (HOK.out l (List.mem_of_getElem? HL.out) a (List.mem_of_getElem? ha)))
      unfold ActP.cells at HMY
      have HK := Lib.hid (all_take l k a ha mayA)
      have hltI2 : (k : Int) < (m : Int) := by omega
      obtain ⟨ma, hma⟩ : ∃ b, mayA a = b := ⟨_, rfl⟩
      rw [hma] at HMY HK
      clear hc2 k1 k2 k3 ha hma hyb
      go_wp2_with fail
      refine HMY.out.mono ?_
      rintro e Y2 ⟨rfl, b2⟩
      have HY2 := Lib.hid (HYB.out.trans (b2.mono HYB.out.size))
      clear b2 c0 c1' c2 c3 c4 c5 c6 c7 c8 kc2
      cases q with
      | false =>
       go_wp2_with fail
       go_roundw
       case rel => exact ⟨_, k + 1, rfl, by omega, by go_num, by rw [HK.out, ← Bool.and_assoc, HQ.out]; rfl, HY2.out⟩
       case measure => simp [intOf]; omega
      | true =>
       go_wp2_with fail
       go_roundw
       case rel => exact ⟨_, k + 1, rfl, by omega, by go_num, by rw [HK.out, ← Bool.and_assoc, HQ.out]; rfl, HY2.out⟩
       case measure => simp [intOf]; omega
     ·obtain rfl : k = m := by omega
      have hltI2 : ¬ ((k : Int) < (k : Int)) := by omega
      have HF := Lib.hid (show allM (ll.take (i + 1)) = q by
       have h1 := HQ.out
       rw [List.take_of_length_le (by omega)] at h1
       rw [allM_take ll i l HL.out, HP.out, h1])
      have HG2 := Lib.hid (show ∀ l ∈ ll.take (i + 1), greatB l = false from fun x hx => by
       rw [List.take_add_one, HL.out, Option.toList_some] at hx
       rcases List.mem_append.1 hx with h | h
       ·exact HGR.out x h
       ·rw [List.mem_singleton.1 h]; exact HGN.out)
      have HYW := Lib.hid (HB.out.trans (hyb.mono HB.out.size))
      clear hyb
      go_wp2_with fail
      go_roundw
      case rel => exact ⟨_, i + 1, rfl, by omega, by go_num, by rw [HF.out], HG2.out, HYW.out⟩
      case measure => simp [intOf]; omega
  ·obtain rfl : i = nL := by omega
   have hltI : ¬ ((i : Int) < (i : Int)) := by omega
   have hTk : ll.take i = ll := List.take_of_length_le (by omega)
   have hgr := HGR.out
   rw [hTk] at hgr
   rw [hTk]
   have HS6 := Lib.hid (fun l hl => great_no (hgr l hl))
   have HNX := Lib.hid (HNW.out X hb HS6.out)
   obtain ⟨p, hp⟩ : ∃ p, allM ll = p := ⟨_, rfl⟩
   have HP := Lib.hid hp
   rw [hp]
   clear hgr hTk hp hb HNW HGR
   go_wp2_with fail
   refine HNX.out.mono ?_
   rintro e X2 ⟨b2, hyes, hno⟩
   have HB2 := Lib.hid (HB.out.trans (b2.mono HB.out.size))
   rw [HP.out] at hyes hno
   cases p with
   | false =>
    obtain rfl := hno rfl
    clear hyes b2
    go_wp2_with fail
    go_ret
    exact ⟨rfl, HB2.out⟩
   | true =>
    obtain ⟨g, rfl, hscr, hgw⟩ := hyes rfl
    have HSC := Lib.hid hscr
    have hgw2 : w.heap.size ≤ g := Nat.le_trans HB.out.size hgw
    have HML := Lib.hid (show ∀ l ∈ ll, ActsOk l ∧ l.length ≤ 20 ∧ l.all mayA = true from fun l hl => ⟨HOK.out l hl, (HS6.out l hl).1, List.all_eq_true.mp HP.out l hl⟩)
    have H1000 : n ≤ 1000 := by omega
    clear hno b2 hscr hgw
    go_wp2_with fail
    go_loopw [13] (fun u13 Z => ∃ (Z0 : World) (j : Nat), Z0 = Z ∧ j ≤ i ∧ u13 = .int .i64 j ∧ ScrI Z0 g (ll.drop j) ∧ Below w.heap.size w Z0) (fun u13 _ => i - (intOf u13).toNat)
    case atStart => exact ⟨_, 0, rfl, by omega, rfl, HSC.out, HB2.out⟩
    case round =>
     obtain ⟨Z, j, hZe, hj, rfl, hsc, hzb⟩ := hrel
     subst hZe
     have HZB := Lib.hid hzb
     by_cases hlt2 : j < i
     ·obtain ⟨l, hl⟩ : ∃ l, ll[j]? = some l := ⟨_, List.getElem?_eq_getElem (by omega)⟩
      obtain ⟨gL, off, rfl, hg, hc⟩ := (HA.out w (Below.refl _ _)).2.2.2.2 (by omega)
      obtain ⟨A1, m, c1, kc, ka⟩ := hc j l hl
      obtain ⟨ok1, ok2, ok3⟩ := HML.out l (List.mem_of_getElem? hl)
      have hml := ka.1
      have HKC := Lib.hid (fun (V : World) (h : Below w.heap.size w V) => ((h.cell (p := ⟨gL, off + j, none⟩) hg).trans kc : V.cell? ⟨gL, off + j, none⟩ = some (.slice A1 m c1)))
      have HPL := Lib.hid (fun (V : World) (h : Below w.heap.size w V) => play_any t A n c req A1 m c1 l V (HW.out V h).1 (HW.out V h).2.1 (HW.out V h).2.2 H1000 H8.out (ka.up h) ok1 (by omega) ok3)
      have HPR := Lib.hid (fun (V : World) (h : Below w.heap.size w V) => rplay_any t A n c req A1 m c1 l V (HW.out V h).2.2 H1000 H8.out (ka.up h) ok1 (by omega) ok3)
      have hdr := ll_drop ll j l hl
      have HDR := Lib.hid hdr
      have hltI2 : (j : Int) < (i : Int) := by omega
      have HSZ := Lib.hid hsc
      have kz := HKC.out Z hzb
      obtain ⟨te, hte⟩ : ∃ q, tE t = q := ⟨_, rfl⟩
      clear hc ka ok1 ok2 ok3 hl kc hsc hdr hzb
      go_wp2_with fail
      refine (HPL.out Z HZB.out).mono ?_
      rintro e Z1 ⟨R1, n1, d1, rs1, rfl, p1, q1, b1⟩
      have HB1 := Lib.hid (HZB.out.trans (b1.mono HZB.out.size))
      have kz1 := HKC.out Z1 HB1.out
      have HP1 := Lib.hid p1
      have HS1 := Lib.hid (HSZ.out.up b1)
      rw [hte]
      clear p1 b1 kz
      go_wp2_with fail
      refine (HPR.out Z1 HB1.out).mono ?_
      rintro e Z2 ⟨R2, n2, d2, rs2, rfl, p2, q2, b2⟩
      obtain rfl := q1.one q2
      have HB2' := Lib.hid (HB1.out.trans (b2.mono HB1.out.size))
      have HSA := Lib.hid (rsame_any R1 n1 d1 R2 n2 d2 rs1 Z2 (HP1.out.up b2) p2)
      have HP2 := Lib.hid p2
      have HS2 := Lib.hid (HS1.out.up b2)
      have HQ1 := Lib.hid q1
      rw [hte]
      clear p2 b2 kz1 q2 q1 hte
      go_wp2_with fail
      refine HSA.out.mono ?_
      rintro e Z3 ⟨rfl, b3⟩
      have HB3 := Lib.hid (HB2'.out.trans (b3.mono HB2'.out.size))
      have HP3 := Lib.hid (HP2.out.up b3)
      have HS3 := Lib.hid (HS2.out.up b3)
      have HLF := Lib.hid (left_any g (ll.drop j) Z3 HS3.out)
      have hlen : (ll.drop j).length = i - j := by rw [List.length_drop]; omega
      rw [hlen] at HLF
      have hne : (te != te) = false := by simp
      have hsub : wrap64 ((i : Int) - (j : Int)) = ((i - j : Nat) : Int) := by rw [w64_at _ (by omega) (by omega)]; omega
      clear b3 hlen
      go_wp2_with fail
      refine HLF.out.mono ?_
      rintro e Z4 ⟨rfl, rfl⟩
      have HOKD := Lib.hid (show ∀ l ∈ ll.drop j, ActsOk l ∧ l.length ≤ 20 ∧ l.all mayA = true from fun l hl => HML.out l (List.mem_of_mem_drop hl))
      have HNX2 := Lib.hid (next_any g t A n c req (ll.drop j) Z3 (fun V b => HW.out V (HB3.out.trans (b.below hgw2 HB3.out.size))) H1000 H8.out HS3.out HOKD.out)
      go_wp2_with fail
      refine HNX2.out.mono ?_
      rintro e Z5 ⟨hbut, hs5, R3, n3, d3, rfl, _, hcons⟩
      obtain ⟨rs3, p3, q3⟩ := hcons l _ HDR.out
      obtain rfl := HQ1.out.one q3
      rw [HDR.out, List.tail_cons] at hs5
      obtain ⟨Ls, ns, cs, hXs, _⟩ := HS3.out
      have HSB := Lib.hid (rsame_any R3 n3 d3 R2 n2 d2 rs1 Z5 p3 (HP3.out.but hXs hbut))
      have HB5 := Lib.hid (HB3.out.trans (hbut.below hgw2 HB3.out.size))
      have HS5 := Lib.hid hs5
      clear hbut hs5 hcons p3 q3 hXs
      go_wp2_with fail
      refine HSB.out.mono ?_
      rintro e Z6 ⟨rfl, b6⟩
      have HS6' := Lib.hid (HS5.out.up b6)
      have HB6 := Lib.hid (HB5.out.trans (b6.mono HB5.out.size))
      clear b6
      go_wp2_with fail
      go_roundw
      case rel => exact ⟨_, j + 1, rfl, by omega, by go_num, HS6'.out, HB6.out⟩
      case measure => simp [intOf]; omega
     ·obtain rfl : j = i := by omega
      have hltI2 : ¬ ((j : Int) < (j : Int)) := by omega
      have e0 : ll.drop j = [] := List.drop_eq_nil_of_le (by omega)
      rw [e0] at hsc
      have HLF : Hid (Calls Tryd.prog 16 #[.pointer (some ⟨g, 0, none⟩)] Z fun e w' => e = .returned (.int .i64 0) ∧ Z = w') := Lib.hid (left_any g [] Z hsc)
      have HNX2 := Lib.hid (next_any g t A n c req [] Z (fun V b => HW.out V (HZB.out.trans (b.below hgw2 HZB.out.size))) H1000 H8.out hsc (fun l hl => by cases hl))
      clear hsc hzb e0
      go_wp2_with fail
      refine HLF.out.mono ?_
      rintro e Z4 ⟨rfl, rfl⟩
      go_wp2_with fail
      refine HNX2.out.mono ?_
      rintro e Z5 ⟨hbut, _, R3, n3, d3, rfl, hn3, _⟩
      obtain rfl := hn3 rfl
      have HB5 := Lib.hid (HZB.out.trans (hbut.below hgw2 HZB.out.size))
      clear hbut
      go_wp2_with fail
      go_ret
      exact ⟨rfl, HB5.out⟩
end Go.Proofs.YtcipleanckeoaaaDoor
