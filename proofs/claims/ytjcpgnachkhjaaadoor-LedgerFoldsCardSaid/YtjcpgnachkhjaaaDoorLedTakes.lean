/- LedgerTakes, walked. -/
import Derived.Test.YtjcpgnachkhjaaaDoorLedTakesP
import Derived.Test.YtjcpgnachkhjaaaDoorLedSums
import Derived.Test.YtjcpgnachkhjaaaDoorOrders
namespace Go.Proofs.YtjcpgnachkhjaaaDoor
open Go.RowKit Go.Shelf
attribute [local go_sem] Oper.semAt_some
set_option linter.unusedVariables false
set_option linter.unusedSimpArgs false
set_option maxRecDepth 100000
theorem sum_eql (a b : SumS) (ha : a.last.hash.length = 32) (hb : b.last.hash.length = 32) (w : World) : (binOp .eql 36 (.agg a.arr) (.agg b.arr)).run Tryd.prog w = .ok (.bool (decide (a = b))) w := by
  rw [run_eql_struct, sum_in 9996 a b ha hb]; rfl
theorem sum_guard (w : World) (x y : Operand) (xs ys : Array Value) : (eqGuard .eql 36 x y (.agg xs) (.agg ys)).run Tryd.prog w = .ok () w := run_eqGuard_agg w .eql 36 x y xs ys (by kernel_rfl)
theorem ent_eql' (a b : Ent) (ha : a.hash.length = 32) (hb : b.hash.length = 32) (w : World) : (binOp .eql 28 (.agg a.arr) (.agg b.arr)).run Tryd.prog w = .ok (.bool (decide (a = b))) w := by
  rw [run_eql_struct, ent_in w 9997 a b ha hb]; rfl
theorem sumI_ok {K : Int} {b : Bk} (hb : b.ok K) (hK : 0 ≤ K) (m : Int) : (b.sumI m).ok K := by
  unfold Bk.sumI
  split
  · exact hb.sumAt _ (by omega)
  · exact SumS.zero_ok K hK
theorem totI_ok {K : Int} {b : Bk} (hb : b.ok K) (hK : 0 ≤ K) (m k : Int) : (b.totI m k).ok K := by
  unfold Bk.totI
  split
  · exact hb.totAt _ _ (by omega) (by omega)
  · exact Tot.zero_ok K hK
theorem addP_err (b : Bk) (x : Ent) (h : (addP b x).2 ≠ 0) : (addP b x).1 = b := by
  unfold addP at h ⊢
  by_cases h1 : (nextP b x).2.2 ≠ 0
  · rw [if_pos h1]
  · rw [if_neg h1] at h
    split at h <;> exact absurd rfl h
set_option maxHeartbeats 4000000 in
theorem takes_any (es : List Ent) (A : Option Addr) (n c : Nat) (x : Ent) (hx : x.ok) (w : World) (hl : EnI w A n es) (hT : WordsT w) (hP : P10 w) :
    Calls Tryd.prog 3 #[.slice A n c, .agg x.arr] w fun e w' => e = .returned (.bool true) ∧ Below w.heap.size w w' := by
  obtain ⟨X, hX⟩ : ∃ X, x.arr = X := ⟨_, rfl⟩
  have hlen := hx.2.2.2.2.2.2.2.2.2.2.1
  rw [hX]
  have HX := Lib.hid hX
  clear hX
  have IX : Hid ((Tryd.prog.info? 28).map (·.size) = some X.size) := Lib.hid (by rw [← HX.out]; exact ent_size x hlen)
  obtain ⟨hnl, hok, hat⟩ := hl
  subst hnl
  have HAT := Lib.hid hat
  have HOK := Lib.hid hok
  clear hat hok
  go_in
  go_upto_region 1 with (fail)
  have hX0 : Held (w.alloc (.cells X 28)) w.heap.size 28 X := Held.new w _ _
  have hb0 : Below w.heap.size w (w.alloc (.cells X 28)) := (Below.refl _ _).alloc (Nat.le_refl _) _
  have hz0 : w.heap.size < (w.alloc (.cells X 28)).heap.size := hX0.lt
  generalize w.alloc (.cells X 28) = W1 at hX0 hb0 hz0 ⊢
  have HA := Lib.hid (alive_any W1 (hT.up hb0) (tabIs_up hP hb0))
  have HT := Lib.hid (hT.up hb0)
  have HX0 := Lib.hid hX0
  clear hT hP hX0
  by_cases hbig : 40 < es.length
  · have hbI : (40 : Int) < (es.length : Int) := by omega
    go_wp2_with (go_at_call 8; refine HA.out.mono ?_; rintro e w1 ⟨rfl, hb1⟩)
    go_ret
    exact ⟨rfl, hb0.trans (hb1.mono hb0.size)⟩
  have hbI : ¬ ((40 : Int) < (es.length : Int)) := by omega
  by_cases hk : x.kind = 1
  case neg =>
    have hkb : (x.kind != 1) = true := by simp [hk]
    go_wp2_with (go_at_call 8; refine HA.out.mono ?_; rintro e w1 ⟨rfl, hb1⟩; obtain ⟨xc0, _⟩ := ent_cells (e := x) (by rw [HX.out]; exact HX0.out.below hb1 hz0))
    go_ret
    exact ⟨rfl, hb0.trans (hb1.mono hb0.size)⟩
  go_upto_region 3 with (go_at_call 8; refine HA.out.mono ?_; rintro e w1 ⟨rfl, hb1⟩; obtain ⟨xc0, _⟩ := ent_cells (e := x) (by rw [HX.out]; exact HX0.out.below hb1 hz0); rw [hk] at xc0)
  clear xc0
  go_wp2_with ((with_reducible refine wpList_build_at (dst := some 28) 40 #[] #[] _ (by kernel_rfl) (by kernel_rfl) (build_book _) ?_); simp only [Act.put, List.setIfInBounds_toArray, List.set_cons_succ, List.set_cons_zero])
  have h0 : Hid (Held (w1.alloc (.cells Bk.zero.arr 40)) w1.heap.size 40 Bk.zero.arr ∧ Below W1.heap.size W1 (w1.alloc (.cells Bk.zero.arr 40))) := Lib.hid ⟨Held.new w1 _ _, hb1.alloc hb1.size _⟩
  have hs1 := hb1.size
  go_loopw [7] (AddR es W1 w1.heap.size) (fun v _ => es.length - (intOf v).toNat)
  case atStart => exact ⟨0, Nat.zero_le _, rfl, by rw [List.take_zero]; exact h0.out.1, h0.out.2⟩
  case round =>
    obtain ⟨i, hi, rfl, hB, hbl⟩ := hrel
    by_cases hlt : i < es.length
    · obtain ⟨e, he⟩ : ∃ e, es[i]? = some e := ⟨_, List.getElem?_eq_getElem hlt⟩
      obtain ⟨g, o, rfl, hrg⟩ := HAT.out i e he
      have hre := rangeAt_up hrg (hb0.trans (hbl.mono hb0.size))
      have heo := HOK.out e (List.mem_of_getElem? he)
      have hel := heo.2.2.2.2.2.2.2.2.2.2.1
      have hbk := runB_ok_take es HOK.out i hi
      have HE := Lib.hid he
      have IE : Hid ((Tryd.prog.info? 28).map (·.size) = some e.cells.length) := Lib.hid (by rw [ent_size e hel]; simp [Ent.arr])
      have HADD := Lib.hid (badd_any i (by omega) (by omega) _ hbk e heo _ wr hB (HT.out.up hbl))
      have hltI : (i : Int) < (es.length : Int) := by omega
      have hbz := hbl.size
      clear hrg heo hel he hbk hB
      go_wp2_with (first
        | ((with_reducible refine wpList_load_at (dst := some 40) 28 (.tmp 39) g (o + i * 42) e.cells _ (by kernel_rfl) (by kernel_rfl) hre Tryd.underlying28 (by kernel_rfl) IE.out ?_); simp only [Act.put, List.setIfInBounds_toArray, List.set_cons_succ, List.set_cons_zero])
        | (go_at_call 9; refine HADD.out.mono ?_; rintro e' V3 ⟨rfl, hB3, hb3⟩; (have hbF := hbl.trans (hb3.below (by omega) hbz))))
      go_roundw
      case rel => exact ⟨i + 1, by omega, by go_num, by rw [runB_take es i e HE.out]; exact hB3, hbF⟩
      case measure => simp [intOf]; omega
    · obtain rfl : i = es.length := by omega
      have hltI : decide ((es.length : Int) < (es.length : Int)) = false := by simp
      rw [List.take_length] at hB
      have hbk0 := runB_ok es HOK.out
      generalize runB es = b at hB hbk0
      have hbk : b.ok 40 := hbk0.mono (by omega)
      clear hbk0 h0 HAT HOK
      have hXr := HX0.out.below hbl hz0
      clear HX0 HA
      have hgx : w.heap.size < w1.heap.size := by omega
      obtain ⟨R, hR⟩ : ∃ R, (addP b x).2 = R := ⟨_, rfl⟩
      obtain ⟨b1, hb1e⟩ : ∃ b1, (addP b x).1 = b1 := ⟨_, rfl⟩
      obtain ⟨T, hTe⟩ : ∃ T, b.totI x.meter x.band = T := ⟨_, rfl⟩
      obtain ⟨S, hSe⟩ : ∃ S, b.sumI x.meter = S := ⟨_, rfl⟩
      have hSok : S.ok 40 := by rw [← hSe]; exact sumI_ok hbk (by omega) _
      have hTok : T.ok 40 := by rw [← hTe]; exact totI_ok hbk (by omega) _ _
      have hSl := hSok.hash
      have HTOT := Lib.hid (total_any 40 b hbk w1.heap.size x.meter x.band wr hB)
      have HSUM := Lib.hid (fun V hV => bsum_any 40 b hbk w1.heap.size x.meter V hV)
      have HADD : Hid (∀ V, Held V w1.heap.size 40 b.arr → WordsT V → Calls Tryd.prog 9 #[.pointer (some ⟨w1.heap.size, 0, none⟩), .agg X] V fun e' V' => e' = .returned (.int .i64 R) ∧ Held V' w1.heap.size 40 b1.arr ∧ But w1.heap.size V V') := Lib.hid (by
        rw [← HX.out, ← hR, ← hb1e]
        exact fun V hV hW => badd_any 40 (by omega) (by omega) b hbk x hx _ V hV hW)
      rw [hTe] at HTOT
      rw [hSe] at HSUM
      have ITs : Hid ((Tryd.prog.info? 32).map (·.size) = some T.arr.size) := Lib.hid tot_size
      have ISs : Hid ((Tryd.prog.info? 36).map (·.size) = some S.arr.size) := Lib.hid (by rw [sum_size, SumS.arr_size _ hSl])
      have IZ : Hid (S.arr.size = SumS.zero.arr.size) := Lib.hid (by rw [SumS.arr_size _ hSl, SumS.arr_size _ rfl])
      have HSl := Lib.hid hSl
      have HBK := Lib.hid hbk
      have HFACT := Lib.hid (fun (hr : R = 0) => takes_plain (by omega) hbk x hx hk (hR.trans hr))
      have HSAME := Lib.hid (fun (hr : R ≠ 0) => show b1 = b from hb1e ▸ addP_err b x (by rw [hR]; exact hr))
      rw [hTe, hSe, hb1e] at HFACT
      have HOK1 := Lib.hid (hb1e ▸ addP_ok (by omega) hbk x hx : b1.ok (40 + 1))
      have hTk := Lib.hid hTok
      have hSk := Lib.hid hSok
      clear hbk hTok hSok hSl hR hb1e hTe hSe
      have hzr := hbl.size
      have hBlt := hB.lt
      obtain ⟨_, xm, _, xe, xb, _, xc, _⟩ := ent_cells (e := x) (by rw [HX.out]; exact hXr)
      go_upto_region 10 with (first
        | (go_at_call 10; refine HTOT.out.mono ?_; rintro e' V3 ⟨rfl, hb3⟩; (have hz3 := hb3.size))
        | ((with_reducible refine wpList_alloc_held (dst := some 8) 32 Tot.zero.arr (by kernel_rfl) alloc_tot ?_); intro V4 h8 b4 z4; (have l4 : V3.heap.size < V4.heap.size := (by omega)); clear z4; simp only [Act.put, List.setIfInBounds_toArray, List.set_cons_succ, List.set_cons_zero])
        | ((with_reducible refine wpList_store_held 32 (.tmp 8) (.tmp 47) V3.heap.size 32 _ T.arr (by kernel_rfl) (by kernel_rfl) (by kernel_rfl) h8 (by kernel_rfl) ITs.out (tot_one _) ?_); intro V5 g8 b5 z5; clear z5; simp only [Act.put, List.setIfInBounds_toArray, List.set_cons_succ, List.set_cons_zero]))
      have b35 : Below wr.heap.size wr V5 := (hb3.trans (b4.mono (by omega))).trans (b5.below (by omega) (by omega))
      have hB5 := hB.below b35 hBlt
      have hX5 := hXr.below b35 (by omega)
      have hb5 := hbl.trans (b35.mono hzr)
      have hz5 := b35.size
      have gtl := g8.lt
      have gtg : w1.heap.size < V3.heap.size := by omega
      generalize V3.heap.size = gt at g8 gtl gtg ⊢
      clear hB hXr hbl hb3 h8 b4 b5 b35 xm xe xb xc hz3 l4 HTOT
      obtain ⟨_, xm, _, xe, xb, _, xc, _⟩ := ent_cells (e := x) (by rw [HX.out]; exact hX5)
      go_upto_region 11 with (first
        | (go_at_call 11; refine (HSUM.out _ hB5).mono ?_; rintro e' V3 ⟨rfl, hb3⟩; (have hz3 := hb3.size))
        | ((with_reducible refine wpList_alloc_held (dst := some 9) 36 SumS.zero.arr (by kernel_rfl) alloc_sum ?_); intro V4 h9 b4 z4; (have l4 : V3.heap.size < V4.heap.size := (by omega)); clear z4; simp only [Act.put, List.setIfInBounds_toArray, List.set_cons_succ, List.set_cons_zero])
        | ((with_reducible refine wpList_store_held 36 (.tmp 9) (.tmp 51) V3.heap.size 36 _ S.arr (by kernel_rfl) (by kernel_rfl) (by kernel_rfl) h9 IZ.out ISs.out (sum_one _) ?_); intro V6 g9 b5 z5; clear z5; simp only [Act.put, List.setIfInBounds_toArray, List.set_cons_succ, List.set_cons_zero]))
      have b35 : Below V5.heap.size V5 V6 := (hb3.trans (b4.mono (by omega))).trans (b5.below (by omega) (by omega))
      have hB6 := hB5.below b35 (by omega)
      have hX6 := hX5.below b35 (by omega)
      have g86 := g8.below b35 gtl
      have hb6 := hb5.trans (b35.mono (by omega))
      have hz6 := b35.size
      have gsl := g9.lt
      have gsg : gt < V3.heap.size := by omega
      have hBlt6 := hB6.lt
      generalize V3.heap.size = gs at g9 gsl gsg ⊢
      clear hB5 hX5 g8 hb5 hb3 h9 b4 b5 b35 xm xe xb xc hz3 l4
      have HTT := Lib.hid (HT.out.up hb6)
      go_upto_region 12 with (first
        | ((with_reducible refine wpList_load_held (dst := some 53) 28 (.tmp 3) w.heap.size 28 X _ (by kernel_rfl) (by kernel_rfl) hX6 Tryd.underlying28 (by kernel_rfl) IX.out ?_); simp only [Act.put, List.setIfInBounds_toArray, List.set_cons_succ, List.set_cons_zero])
        | (go_at_call 9; refine (HADD.out _ hB6 HTT.out).mono ?_; rintro e' V7 ⟨rfl, hB7, hb7⟩))
      have hX7 := hb7.held (by omega) hX6
      have g87 := hb7.held (by omega) g86
      have g97 := hb7.held (by omega) g9
      have hz7 := hb7.size
      have bb7 : Below W1.heap.size W1 V7 := hb6.trans (hb7.below hs1 hb6.size)
      have HTT7 := Lib.hid (HT.out.up bb7)
      have hBlt7 := hB7.lt
      clear hB6 hX6 g86 g9 hb6 hb7 HTT HADD
      obtain ⟨_, xm, _, xe, xb, _, xc, _⟩ := ent_cells (e := x) (by rw [HX.out]; exact hX7)
      by_cases hR0 : R = 0
      case neg =>
        have hRb : (R != 0) = true := by simp [hR0]
        rw [HSAME.out hR0] at hB7
        have HEQ : Hid (∀ v, (binOp .eql 36 (.agg S.arr) (.agg S.arr)).run Tryd.prog v = .ok (.bool true) v) := Lib.hid (fun v => by rw [sum_eql S S HSl.out HSl.out]; simp)
        clear HSAME HFACT
        go_upto_region 13 with (fail)
        have hBd : Held V7.drew w1.heap.size 40 b.arr := hB7
        have gd : Held V7.drew gs 36 S.arr := g97
        have xmd : V7.drew.cell? ⟨w.heap.size, 1, none⟩ = some (.int .i64 x.meter) := xm
        have bbd : Below W1.heap.size W1 V7.drew := bb7.drew
        have gdl := gd.lt
        refine wp_region_orders (by kernel_rfl) [[0, 1, 2, 3, 4, 5, 6, 7, 8, 9], [0, 1, 2, 3, 4, 6, 5, 7, 8, 9], [0, 1, 2, 3, 6, 4, 5, 7, 8, 9], [0, 1, 2, 6, 3, 4, 5, 7, 8, 9], [0, 1, 3, 2, 4, 5, 6, 7, 8, 9], [0, 1, 3, 2, 4, 6, 5, 7, 8, 9], [0, 1, 3, 2, 6, 4, 5, 7, 8, 9], [0, 1, 3, 4, 2, 5, 6, 7, 8, 9], [0, 1, 3, 4, 2, 6, 5, 7, 8, 9], [0, 1, 3, 4, 6, 2, 5, 7, 8, 9], [0, 1, 3, 6, 2, 4, 5, 7, 8, 9], [0, 1, 3, 6, 4, 2, 5, 7, 8, 9], [0, 1, 6, 2, 3, 4, 5, 7, 8, 9], [0, 1, 6, 3, 2, 4, 5, 7, 8, 9], [0, 1, 6, 3, 4, 2, 5, 7, 8, 9]] (by kernel_rfl) ?_
        intro o ho
        clear hB7 g97 xm xe xb xc bb7 hX7 g87
        generalize V7.drew = Vd at hBd gd xmd bbd gdl ⊢
        simp only [List.mem_cons, List.not_mem_nil, or_false] at ho
        rcases ho with rfl | rfl | rfl | rfl | rfl | rfl | rfl | rfl | rfl | rfl | rfl | rfl | rfl | rfl | rfl
        all_goals
          simp only [opsAt_cons, opsAt_nil, List.getElem?_toArray, List.getElem?_cons_succ, List.getElem?_cons_zero, Option.toList_some, List.cons_append, List.nil_append]
          go_wp2_with (first
            | (go_at_call 11; refine (HSUM.out _ hBd).mono ?_; rintro e' V8 ⟨rfl, hb8⟩; (have g98 := gd.below hb8 gdl))
            | ((with_reducible refine wpList_load_held (dst := some 63) 36 (.tmp 9) gs 36 S.arr _ (by kernel_rfl) (by kernel_rfl) (by first | exact g98 | exact gd) Tryd.underlying36 (by kernel_rfl) ISs.out ?_); simp only [Act.put, List.setIfInBounds_toArray, List.set_cons_succ, List.set_cons_zero])
            | ((with_reducible refine wpList_bin_at (dst := some 64) .eql 36 36 (.tmp 62) (.tmp 63) (.agg S.arr) (.agg S.arr) _ (by kernel_rfl) (by kernel_rfl) (by kernel_rfl) (sum_guard _ _ _ _ _) (HEQ.out _) ?_); simp only [Act.put, List.setIfInBounds_toArray, List.set_cons_succ, List.set_cons_zero]))
          go_ret
          exact ⟨rfl, hb0.trans ((bbd.trans (hb8.mono bbd.size)).mono hb0.size)⟩
      subst hR0
      obtain ⟨he, h2, q1, q2, q3, q4, q5, q6, q7, q8⟩ := HFACT.out rfl
      obtain ⟨_, _, _, hen, hco, _⟩ := okE_in x hx he
      have hyo := backE_ok x hx he
      unfold amt at hen hco
      clear HSUM HSAME HFACT
      have HADD2 : Hid (Calls Tryd.prog 9 #[.pointer (some ⟨w1.heap.size, 0, none⟩), .agg (backE x).arr] V7 fun e' V' => e' = .returned (.int .i64 0) ∧ Held V' w1.heap.size 40 (addP b1 (backE x)).1.arr ∧ But w1.heap.size V7 V') := Lib.hid (by
        have := badd_any 41 (by omega) (by omega) b1 HOK1.out (backE x) hyo w1.heap.size V7 hB7 HTT7.out
        unfold AddPost at this
        rw [h2] at this
        exact this)
      have HOK2 := addP_ok (by omega) HOK1.out (backE x) hyo
      clear h2
      generalize (addP b1 (backE x)).1 = b2 at HADD2 HOK2 q1 q2 q3 q4 q5 q6 q7 q8
      obtain ⟨T2, hT2⟩ : ∃ T2, b2.totI x.meter x.band = T2 := ⟨_, rfl⟩
      obtain ⟨S2, hS2⟩ : ∃ S2, b2.sumI x.meter = S2 := ⟨_, rfl⟩
      have HTOT2 := Lib.hid (fun V hV => total_any (40 + 1 + 1) b2 HOK2 w1.heap.size x.meter x.band V hV)
      have HSUM2 := Lib.hid (fun V hV => bsum_any (40 + 1 + 1) b2 HOK2 w1.heap.size x.meter V hV)
      have hS2l : S2.last.hash.length = 32 := by rw [← hS2, q8]; exact hlen
      rw [hT2] at HTOT2 q1 q2 q3
      rw [hS2] at HSUM2 q4 q5 q6 q7 q8
      have ITs2 : Hid ((Tryd.prog.info? 32).map (·.size) = some T2.arr.size) := Lib.hid tot_size
      have ISs2 : Hid ((Tryd.prog.info? 36).map (·.size) = some S2.arr.size) := Lib.hid (by rw [sum_size, SumS.arr_size _ hS2l])
      have IZ2 : Hid (S2.arr.size = SumS.zero.arr.size) := Lib.hid (by rw [SumS.arr_size _ hS2l, SumS.arr_size _ rfl])
      clear HOK2 hT2 hS2
      go_upto_region 15 with (go_at_call 9; refine HADD2.out.mono ?_; rintro e' V8 ⟨rfl, hB8, hb8⟩)
      have hX8 := hb8.held (by omega) hX7
      have g88 := hb8.held (by omega) g87
      have g98 := hb8.held (by omega) g97
      have hz8 := hb8.size
      have bb8 : Below W1.heap.size W1 V8 := bb7.trans (hb8.below hs1 bb7.size)
      have hBlt8 := hB8.lt
      clear hB7 hX7 g87 g97 bb7 hb8 HTT7 HADD2 xm xe xb xc
      obtain ⟨_, xm, _, xe, xb, _, xc, _⟩ := ent_cells (e := x) (by rw [HX.out]; exact hX8)
      go_upto_region 16 with (first
        | (go_at_call 10; refine (HTOT2.out _ hB8).mono ?_; rintro e' V3 ⟨rfl, hb3⟩; (have hz3 := hb3.size))
        | ((with_reducible refine wpList_alloc_held (dst := some 12) 32 Tot.zero.arr (by kernel_rfl) alloc_tot ?_); intro V4 h12 b4 z4; (have l4 : V3.heap.size < V4.heap.size := (by omega)); clear z4; simp only [Act.put, List.setIfInBounds_toArray, List.set_cons_succ, List.set_cons_zero])
        | ((with_reducible refine wpList_store_held 32 (.tmp 12) (.tmp 84) V3.heap.size 32 _ T2.arr (by kernel_rfl) (by kernel_rfl) (by kernel_rfl) h12 (by kernel_rfl) ITs2.out (tot_one _) ?_); intro V9 g12 b5 z5; clear z5; simp only [Act.put, List.setIfInBounds_toArray, List.set_cons_succ, List.set_cons_zero]))
      have b35 : Below V8.heap.size V8 V9 := (hb3.trans (b4.mono (by omega))).trans (b5.below (by omega) (by omega))
      have hB9 := hB8.below b35 hBlt8
      have hX9 := hX8.below b35 (by omega)
      have g89 := g88.below b35 (by omega)
      have g99 := g98.below b35 (by omega)
      have bb9 := bb8.trans (b35.mono (by omega))
      have hz9 := b35.size
      have g12l := g12.lt
      generalize V3.heap.size = gt2 at g12 g12l ⊢
      clear hB8 hX8 g88 g98 bb8 hb3 h12 b4 b5 b35 xm xe xb xc hz3 l4 HTOT2
      obtain ⟨_, xm, _, xe, xb, _, xc, _⟩ := ent_cells (e := x) (by rw [HX.out]; exact hX9)
      go_upto_region 17 with (first
        | (go_at_call 11; refine (HSUM2.out _ hB9).mono ?_; rintro e' V3 ⟨rfl, hb3⟩; (have hz3 := hb3.size))
        | ((with_reducible refine wpList_alloc_held (dst := some 13) 36 SumS.zero.arr (by kernel_rfl) alloc_sum ?_); intro V4 h13 b4 z4; (have l4 : V3.heap.size < V4.heap.size := (by omega)); clear z4; simp only [Act.put, List.setIfInBounds_toArray, List.set_cons_succ, List.set_cons_zero])
        | ((with_reducible refine wpList_store_held 36 (.tmp 13) (.tmp 88) V3.heap.size 36 _ S2.arr (by kernel_rfl) (by kernel_rfl) (by kernel_rfl) h13 IZ2.out ISs2.out (sum_one _) ?_); intro V10 g13 b5 z5; clear z5; simp only [Act.put, List.setIfInBounds_toArray, List.set_cons_succ, List.set_cons_zero]))
      have b35 : Below V9.heap.size V9 V10 := (hb3.trans (b4.mono (by omega))).trans (b5.below (by omega) (by omega))
      have hX10 := hX9.below b35 (by omega)
      have g8a := g89.below b35 (by omega)
      have g9a := g99.below b35 (by omega)
      have g12a := g12.below b35 (by omega)
      have bb10 := bb9.trans (b35.mono (by omega))
      generalize V3.heap.size = gs2 at g13 ⊢
      clear hB9 hX9 g89 g99 g12 bb9 hb3 h13 b4 b5 b35 xm xe xb xc hz3 l4 HSUM2
      obtain ⟨ta0, ta1, ta2⟩ := tot_cells g8a
      obtain ⟨tb0, tb1, tb2⟩ := tot_cells g12a
      obtain ⟨sa0, sa1, sa2, sa3, sa4, sa5, sa6⟩ := sum_cells g9a
      obtain ⟨sb0, sb1, sb2, sb3, sb4, sb5, sb6⟩ := sum_cells g13
      have hlr : V10.rangeAt gs2 7 x.cells := by
        rw [← q8]
        have := held_range (A := [.int .i64 S2.energy, .int .i64 S2.cost, .int .i64 S2.intervals, .int .i64 S2.flagged, .int .i64 S2.suspects, .int .i64 S2.replaced, .int .i64 S2.corrected]) (vs := S2.last.cells) (C := []) (by simpa [SumS.arr, SumS.cells] using g13)
        exact this
      rw [q1] at tb0
      rw [q2] at tb1
      rw [q3] at tb2
      rw [q4] at sb0
      rw [q5] at sb1
      rw [q6] at sb2
      rw [q7] at sb6
      have tk := hTk.out
      have sk := hSk.out
      unfold Tot.ok at tk
      unfold SumS.ok at sk
      obtain ⟨_, _, tk3, tk4⟩ := tk
      obtain ⟨_, _, sk3, _, _, _, sk7, _⟩ := sk
      clear g8a g12a g9a g13 q1 q2 q3 q4 q5 q6 q7 q8
      have IE : Hid ((Tryd.prog.info? 28).map (·.size) = some x.cells.length) := Lib.hid (by rw [ent_size x hlen]; simp [Ent.arr])
      have HEQ : Hid (∀ v, (binOp .eql 28 (.agg x.cells.toArray) (.agg X)).run Tryd.prog v = .ok (.bool true) v) := Lib.hid (fun v => by rw [← HX.out]; exact (ent_eql' x x hlen hlen v).trans (by simp))
      go_wp2_with (first
        | ((with_reducible refine wpList_load_at (dst := some 148) 28 (.tmp 147) gs2 7 x.cells _ (by kernel_rfl) (by kernel_rfl) hlr Tryd.underlying28 (by kernel_rfl) IE.out ?_); simp only [Act.put, List.setIfInBounds_toArray, List.set_cons_succ, List.set_cons_zero])
        | ((with_reducible refine wpList_load_held (dst := some 149) 28 (.tmp 3) w.heap.size 28 X _ (by kernel_rfl) (by kernel_rfl) hX10 Tryd.underlying28 (by kernel_rfl) IX.out ?_); simp only [Act.put, List.setIfInBounds_toArray, List.set_cons_succ, List.set_cons_zero])
        | ((with_reducible refine wpList_bin_at (dst := some 150) .eql 28 28 (.tmp 148) (.tmp 149) (.agg x.cells.toArray) (.agg X) _ (by kernel_rfl) (by kernel_rfl) (by kernel_rfl) (ent_guard _ _ _ _ _ _) (HEQ.out _) ?_); simp only [Act.put, List.setIfInBounds_toArray, List.set_cons_succ, List.set_cons_zero]))
      go_ret
      exact ⟨rfl, hb0.trans (bb10.mono hb0.size)⟩
end Go.Proofs.YtjcpgnachkhjaaaDoor
