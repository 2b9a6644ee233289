/- bus.Play. -/
import Derived.Test.YtcipleanckeoaaaDoorYTk
import Derived.Test.YtcipleanckeoaaaDoorYBusMem
import Derived.RangeFuncLeaves
import Derived.Deep.RegionHeld
set_option maxRecDepth 100000
set_option maxHeartbeats 40000000
namespace Go.Proofs.YtcipleanckeoaaaDoor
open Go.RowKit
attribute [local go_sem] Oper.semAt_some
set_option linter.unusedVariables false
set_option linter.unusedSimpArgs false
theorem pieces_own (t : Int) (A : Option Addr) (n c : Nat) (ac : ActP) (Ar : Option Addr) (nr cr : Nat) (D : Option Addr) (nd cd : Nat) (w : World) :
  Calls Tryd.prog 47 #[.int .i64 t, .slice A n c, .agg (ac.cells Ar nr cr D nd cd)] w fun e w' => e = .returned (.func (.func 90) #[] #[.pointer (some ⟨w.heap.size + 1, 0, none⟩), .pointer (some ⟨w.heap.size + 2, 0, none⟩), .pointer (some ⟨w.heap.size, 0, none⟩)]) ∧
   Below w.heap.size w w' ∧ Held w' w.heap.size 2 #[.int .i64 t] ∧ Held w' (w.heap.size + 1) 22 #[.slice A n c] ∧ Held w' (w.heap.size + 2) 29 (ac.cells Ar nr cr D nd cd) := by
 have h1 : Below w.heap.size w (((w.alloc (.cells #[.int .i64 t] 2)).alloc (.cells #[.slice A n c] 22)).alloc (.cells (ac.cells Ar nr cr D nd cd) 29)) := (((Below.refl _ w).alloc (Nat.le_refl _) _).alloc (by simp) _).alloc (by simp; omega) _
 have a1 : Held (((w.alloc (.cells #[.int .i64 t] 2)).alloc (.cells #[.slice A n c] 22)).alloc (.cells (ac.cells Ar nr cr D nd cd) 29)) w.heap.size 2 #[.int .i64 t] := ((Held.new w _ _).alloc _).alloc _
 have a2 : Held (((w.alloc (.cells #[.int .i64 t] 2)).alloc (.cells #[.slice A n c] 22)).alloc (.cells (ac.cells Ar nr cr D nd cd) 29)) (w.heap.size + 1) 22 #[.slice A n c] := by
  have := (Held.new (w.alloc (.cells #[.int .i64 t] 2)) 22 #[.slice A n c]).alloc (.cells (ac.cells Ar nr cr D nd cd) 29)
  rwa [World.size_alloc] at this
 have a3 : Held (((w.alloc (.cells #[.int .i64 t] 2)).alloc (.cells #[.slice A n c] 22)).alloc (.cells (ac.cells Ar nr cr D nd cd) 29)) (w.heap.size + 2) 29 (ac.cells Ar nr cr D nd cd) := by
  have := Held.new ((w.alloc (.cells #[.int .i64 t] 2)).alloc (.cells #[.slice A n c] 22)) 29 (ac.cells Ar nr cr D nd cd)
  rwa [World.size_alloc, World.size_alloc] at this
 have HE := Lib.hid (And.intro h1 (And.intro a1 (And.intro a2 a3)))
 clear h1 a1 a2 a3
 unfold ActP.cells at *
 go_in
 go_wp2
 go_ret
 exact ⟨rfl, HE.out⟩
theorem pieces_seq (F : Fence) (n : Nat) (hF : F.fn 90) (hro : F.round = none) (hn : 1 ≤ n) (Bt Bb Ba : Nat) (t : Int) (ac : ActP) (Ar : Option Addr) (nr cr : Nat) (D : Option Addr) (nd cd : Nat) (A : Option Addr) (g off nn c : Nat) (w : World) (hA : 0 < nn → A = some ⟨g, off, none⟩)
  (ht : Held w Bt 2 #[.int .i64 t]) (hb : Held w Bb 22 #[.slice A nn c]) (ha : Held w Ba 29 (ac.cells Ar nr cr D nd cd)) (htr : 0 ≤ t ∧ t ≤ 2305843009213693952) (hwr : 0 ≤ ac.wait ∧ ac.wait ≤ 1073741824) (hgr : 0 ≤ ac.gap ∧ ac.gap ≤ 1073741824) (hc : nn ≤ c) (hm : c ≤ maxLen) :
  SeqW F n Tryd.prog 90 #[.pointer (some ⟨Bb, 0, none⟩), .pointer (some ⟨Ba, 0, none⟩), .pointer (some ⟨Bt, 0, none⟩)] (encP (t + ac.wait) ac.gap g off nn c) (KpP Bt Bb Ba) (AbP Bb) (fun _ => True) (fun k => k < numP ac.gap nn) (fun k => k = numP ac.gap nn) (fun _ => True) w := by
 intro l J Jx W hW hJ _ _ hY h0
 have ht := ht.below hW ht.lt
 have hb := hb.below hW hb.lt
 have ha := ha.below hW ha.lt
 have fin : ∀ K, numP ac.gap nn = K → ∀ e W', ((∃ v, e = Ending.returned v) ∧ (J K W' ∨ ∃ k, Jx k W')) → (∃ v, e = Ending.returned v) ∧ ((∃ k, k = numP ac.gap nn ∧ J k W') ∨ (∃ k, True ∧ Jx k W')) := fun K hK e W' h => by
  refine ⟨h.1, ?_⟩
  rcases h.2 with h2 | ⟨k, h2⟩
  ·exact .inl ⟨K, hK.symm, h2⟩
  ·exact .inr ⟨k, trivial, h2⟩
 by_cases h0n : nn = 0
 ·subst h0n
  refine (pieces_0 F n hF hro l Bt Bb Ba t ac Ar nr cr D nd cd A c J W ht hb ha htr hwr h0).mono ?_
  rintro e W' ⟨h1, h2⟩
  exact fin 0 (by unfold numP; rw [if_pos rfl]) e W' ⟨h1, .inl h2⟩
 ·have hA := hA (by omega)
  subst hA
  cases h2 : isTwo ac.gap nn with
  | false =>
   have hK : numP ac.gap nn = 1 := by unfold numP; rw [if_neg h0n, h2]; rfl
   rw [hK] at hY
   exact (pieces_1 F n hF hro hn l Bt Bb Ba t ac Ar nr cr D nd cd g off nn c J Jx W ht hb ha htr hwr hgr h0 hJ hY (by omega) hc hm h2).mono (fin 1 hK)
  | true =>
   have hK : numP ac.gap nn = 2 := by unfold numP; rw [if_neg h0n, h2]; rfl
   rw [hK] at hY
   exact (pieces_2 F n hF hro hn l Bt Bb Ba t ac Ar nr cr D nd cd g off nn c J Jx W ht hb ha htr hwr hgr h0 hJ hY (by unfold isTwo at h2; exact (of_decide_eq_true h2).2) hc hm h2).mono (fin 2 hK)
theorem numP_len (t : Int) (req : List Int) (a : ActP) (n : Nat) (h : (bytesA req a).length = n) : numP a.gap n = (actL t req a).length := by
 unfold numP actL isTwo
 by_cases h0 : n = 0
 ·rw [if_pos h0, if_pos (List.length_eq_zero_iff.mp (by omega))]; rfl
 ·have hb : bytesA req a ≠ [] := fun e => h0 (by rw [← h, e]; rfl)
  by_cases h2 : 0 < a.gap ∧ 1 < n
  ·rw [if_neg h0, if_pos (decide_eq_true h2), if_neg hb, h, if_pos h2]; rfl
  ·rw [if_neg h0, if_neg (by simp only [decide_eq_true_eq]; exact h2), if_neg hb, h, if_neg h2]; rfl
theorem enc_act (t : Int) (req : List Int) (ac : ActP) (g off n c k : Nat) (hl : (bytesA req ac).length = n) (hk : k < numP ac.gap n) :
  ∃ at_ Ak nk ck d, encP (t + ac.wait) ac.gap g off n c k = #[.agg #[.int .i64 at_, .slice Ak nk ck]] ∧ (actL t req ac).take (k + 1) = (actL t req ac).take k ++ [(at_, d)] ∧ ∀ W : World, SlI W W.heap.size .u8 (some ⟨g, off, none⟩) n c (bytesA req ac) → SlI W W.heap.size .u8 Ak nk ck d := by
 have hn0 : n ≠ 0 := fun h => by unfold numP at hk; rw [if_pos h] at hk; omega
 have hb : bytesA req ac ≠ [] := fun e => hn0 (by rw [← hl, e]; rfl)
 cases h2 : isTwo ac.gap n with
 | false =>
  have hK : numP ac.gap n = 1 := by unfold numP; rw [if_neg hn0, h2]; rfl
  obtain rfl : k = 0 := by omega
  refine ⟨t + ac.wait, some ⟨g, off, none⟩, n, c, bytesA req ac, ?_, ?_, fun W h => h⟩
  ·unfold encP; rw [h2]; rfl
  ·unfold actL
   rw [if_neg hb, if_neg (by rw [hl]; unfold isTwo at h2; exact of_decide_eq_false h2)]; rfl
 | true =>
  have hK : numP ac.gap n = 2 := by unfold numP; rw [if_neg hn0, h2]; rfl
  have hA : actL t req ac = [(t + ac.wait, (bytesA req ac).take (n / 2)), (t + ac.wait + ac.gap, (bytesA req ac).drop (n / 2))] := by
   unfold actL
   rw [if_neg hb, hl, if_pos (by unfold isTwo at h2; exact of_decide_eq_true h2)]
  rw [hA]
  rcases (show k = 0 ∨ k = 1 by omega) with rfl | rfl
  ·refine ⟨t + ac.wait, some ⟨g, off, none⟩, n / 2, c, _, ?_, rfl, fun W h => h.take (n / 2) (by omega)⟩
   unfold encP; rw [h2]; rfl
  ·exact ⟨t + ac.wait + ac.gap, _, _, _, _, rfl, rfl, fun W h => h.drop (n / 2) (by omega)⟩
theorem encP_size (t0 gap : Int) (g off n c k : Nat) : (encP t0 gap g off n c k).size = 1 := by
 cases k with
 | zero => cases h : isTwo gap n <;> simp [encP, h]
 | succ k => rfl
theorem playL_next (t : Int) (req : List Int) (l : List ActP) (i : Nat) (a : ActP) (h : l[i]? = some a) : playL t req (l.take (i + 1)) = playL t req (l.take i) ++ actL t req a := by
 unfold playL
 rw [List.take_add_one, h, List.flatMap_append]; simp
theorem row_slice {W : World} {v : Value} {B size n : Nat} {e : TypeId} {xs : List Value} (h : W.ownsRow B e size v n xs) : ∃ A c, v = .slice A n c := by
 rcases h.2 with ⟨rfl, rfl⟩ | ⟨g, cap, cur, rfl, _⟩
 ·exact ⟨none, 0, rfl⟩
 ·exact ⟨_, cap, rfl⟩
theorem infoP : (Tryd.prog.info? 51).map (fun i => (i.zero, i.size, i.bytes)) = some (some (.agg #[.int .i64 0, .slice none 0 0]), 2, 32) := by kernel_rfl
theorem play_ok (t : Int) (A : Option Addr) (n c : Nat) (req : List Int) (L : Option Addr) (nl cl : Nat) (l : List ActP) (w : World) (hT : LimT w) (hN : NamesT w) (hS : SlI w w.heap.size .u8 A n c req) (hn : n ≤ 1000) (h8 : Byte8 req) (hA : ActsI w L nl cl l) (hok : ActsOk l) (h20 : nl ≤ 20)
  (ht : 0 ≤ t ∧ t ≤ 2305843009213693952) (hm : l.all mayA = true) :
  CallsIn Fence.wide 7 Tryd.prog 13 #[.int .i64 t, .slice A n c, .slice L nl cl] w fun e w' => ∃ R nr cr rs, e = .returned (.tuple #[.slice R nr cr, .int .i64 0]) ∧ PcsI w' R nr cr rs ∧ SortedOf (playL t req l) rs ∧ Below w.heap.size w w' := by
 have HCF := Lib.hid (conta_any L nl cl l w hN hA hok (by omega))
 rw [hm, Bool.not_true] at HCF
 have d1 : decide (t < 0) = false := decide_eq_false (by omega)
 have d2 : decide (t > 2305843009213693952) = false := decide_eq_false (by omega)
 have d2' : decide (2305843009213693952 < t) = false := decide_eq_false (by omega)
 have HW := Lib.hid (fun (V : World) (h : Below w.heap.size w V) => (⟨hT.up h, hN.up h, hS.up h, hA.up h⟩ : LimT V ∧ NamesT V ∧ SlI V V.heap.size .u8 A n c req ∧ ActsI V L nl cl l))
 have hll := hA.1
 have H8 := Lib.hid h8
 have HOK := Lib.hid hok
 have HM := Lib.hid (fun (a : ActP) (h : a ∈ l) => (of_decide_eq_true (List.all_eq_true.mp hm a h) : mayQ a))
 clear hT hN hS hA h8 hok hm
 have hF1 : Fence.wide.fn 45 := trivial
 refine callsIn_of_wp_marks Tryd.func13 rfl trivial ?_ rfl
 simp only [Tryd.ntmps13, List.size_toArray, List.length_cons, List.length_nil, Nat.reduceAdd, Nat.reduceSub, Array.replicate_succ, Array.replicate_zero, List.push_toArray, List.append_toArray, List.nil_append, List.cons_append]
 gi_wp2_with (gi_at_call 45; refine (callsIn_wide.2 HCF.out).mono ?_; rintro e w2 ⟨rfl, hb2⟩)
 refine wpIn_wide.2 ?_
 obtain ⟨gO, hgO⟩ : ∃ g, w2.heap.size = g := ⟨_, rfl⟩
 obtain ⟨w3, hw3⟩ : ∃ Y, w2.alloc (.cells #[.slice none 0 0] 34) = Y := ⟨_, rfl⟩
 have hO3 : Held w3 gO 34 #[.slice none 0 0] := by rw [← hw3, ← hgO]; exact Held.new w2 _ _
 have b3 : Below w.heap.size w w3 := by rw [← hw3]; exact hb2.alloc hb2.size _
 obtain ⟨B, hB⟩ : ∃ B, w3.heap.size = B := ⟨_, rfl⟩
 have hgB : gO < B := by have := hO3.lt; omega
 have hwB : w.heap.size ≤ gO := by have := hb2.size; omega
 have HB := Lib.hid hB
 have HW3 := Lib.hid b3
 have H03 := Lib.hid (show PlI (playL t req (l.take 0)) gO B w3 [] (.slice none 0 0) w3 from ⟨[], hO3, World.ownsRow_nil _ _ _ _, AllC.none _ _, rfl, (fun y hy => by cases hy), Lx.refl _ _ _, Mk.nil _ _⟩)
 rw [hw3, hgO]
 clear hw3 hgO hO3 b3 hb2 HCF hB
 refine wp_loop (fun a' W => ∃ (i : Nat) (u10 u23 u24 u25 u26 u27 u28 u29 u30 u31 u37 : Value) (Ds : List Nat) (v : Value), a' = { tmps := #[.int .i64 t, .slice A n c, .slice L nl cl, undef, undef, undef, .slice none 0 0, .int .i64 0, .pointer (some ⟨gO, 0, none⟩), undef, u10, undef, .int .i64 t, .bool false, .bool false, .int .i64 t, .bool false, .bool false, .slice L nl cl, .bool false, .slice L nl cl, .int .i64 nl, .int .i64 (i : Nat), u23, u24, u25, u26, u27, u28, u29, u30, u31, undef, undef, undef, undef, undef, u37, undef, undef, undef], defers := Ds.map markD } ∧ i ≤ nl ∧ PlI (playL t req (l.take i)) gO B w3 Ds v W) (fun a' _ => nl - (intOf (a'.tmps.getD 22 undef)).toNat) ?_ ?_
 ·exact ⟨0, _, _, _, _, _, _, _, _, _, _, _, [], _, rfl, Nat.zero_le _, H03.out⟩
 ·rintro a' W ⟨i, u10, u23, u24, u25, u26, u27, u28, u29, u30, u31, u37, Ds, v, rfl, hi, hP⟩
  have hsz := hP.size
  have hBW : B ≤ W.heap.size := by rw [← HB.out]; exact hsz
  have HBW : Hid (Below w.heap.size w W) := Lib.hid (by obtain ⟨ys, a1, a2, a3, a4, a5, a6, a7⟩ := hP; exact HW3.out.trans (a6.1.1.mono (by omega)))
  have HP := Lib.hid hP
  clear hP
  by_cases hlt : i < nl
  ·obtain ⟨ac, ha⟩ : ∃ a, l[i]? = some a := ⟨_, List.getElem?_eq_getElem (by omega)⟩
   obtain ⟨hTW, hNW, hSW, hAW⟩ := HW.out W HBW.out
   obtain ⟨g, off, rfl, hg, hc⟩ := hAW.2.2.2.2 (by omega)
   obtain ⟨Ar, nr, cr, D, nd, cd, k1, k2, k3⟩ := hc i ac ha
   obtain ⟨c0, c1, c2, c3, c4, c5, c6, c7, c8⟩ := act_cells k1
   have hltI : decide ((i : Int) < (nl : Int)) = true := decide_eq_true (by omega)
   have hltN : decide (i < nl) = true := decide_eq_true (by omega)
   obtain ⟨V, hV⟩ : ∃ Y, W.alloc (.cells (ac.cells Ar nr cr D nd cd) 29) = Y := ⟨_, rfl⟩
   have hb1 := zB1 hV
   obtain ⟨gA, hgA⟩ : ∃ q, W.heap.size = q := ⟨_, rfl⟩
   have hX : Held V gA 29 (ac.cells Ar nr cr D nd cd) := by rw [← hV, ← hgA]; exact Held.new W _ _
   have HBY := Lib.hid (fun (Y : World) (h : Below V.heap.size V Y) => bbytes_any A n c req (.agg (ac.cells Ar nr cr D nd cd)) ac Y ((hTW.up hb1).up h) ((hNW.up hb1).up h) ((hSW.up hb1).up h) hn H8.out ⟨Ar, nr, cr, D, nd, cd, rfl, (k2.up hb1).up h, (k3.up hb1).up h⟩ (HOK.out ac (List.mem_of_getElem? ha)))
   have HPC := Lib.hid (fun (R : Option Addr) (x y : Nat) (Y : World) => pieces_own t R x y ac Ar nr cr D nd cd Y)
   have HX := Lib.hid hX
   have HB1 := Lib.hid hb1
   have HPV := Lib.hid (HP.out.below hb1 (by omega) hBW)
   have HAC := Lib.hid ha
   have HMA := Lib.hid (HM.out ac (List.mem_of_getElem? ha))
   unfold ActP.cells at hX hV HBY HPC
   have x0 : V.cell? ⟨gA, 0, none⟩ = some (.int .i64 ac.kind) := hX.cell 0
   have x1 : V.cell? ⟨gA, 1, none⟩ = some (.int .i64 ac.wait) := hX.cell 1
   have x2 : V.cell? ⟨gA, 2, none⟩ = some (.int .i64 ac.gap) := hX.cell 2
   have x3 : V.cell? ⟨gA, 3, none⟩ = some (.slice Ar nr cr) := hX.cell 3
   have x4 : V.cell? ⟨gA, 4, none⟩ = some (.int .i64 ac.code) := hX.cell 4
   have x5 : V.cell? ⟨gA, 5, none⟩ = some (.int .i64 ac.n) := hX.cell 5
   have x6 : V.cell? ⟨gA, 6, none⟩ = some (.int .i64 ac.unit) := hX.cell 6
   have x7 : V.cell? ⟨gA, 7, none⟩ = some (.int .u8 ac.wth) := hX.cell 7
   have x8 : V.cell? ⟨gA, 8, none⟩ = some (.slice D nd cd) := hX.cell 8
   have hgl := hX.lt
   clear hTW hNW hSW hAW hc k1 k2 k3 ha hb1 hX
   go_wp2_with fail
   clear hV c0 c1 c2 c3 c4 c5 c6 c7 c8
   refine wp_noPanic ?_
   obtain ⟨wd9, hwd9⟩ : ∃ W : World, V.drew = W := ⟨_, rfl⟩
   have hS := zB3 hwd9
   refine wp_region_held (S := Below V.heap.size V) (by kernel_rfl) ?_
   change wpAnyH _ _ _ _ _ _ _ _ V.drew
   rw [hwd9]
   clear hwd9
   refine zU 0 rfl hS ?_
   refine zU 1 rfl hS ?_
   refine zU 2 rfl hS ?_ (hy := fun W hH => by
    have q0 := (hH.cell (p := ⟨gA, 0, none⟩) hgl).trans x0
    have q1 := (hH.cell (p := ⟨gA, 1, none⟩) hgl).trans x1
    have q2 := (hH.cell (p := ⟨gA, 2, none⟩) hgl).trans x2
    have q3 := (hH.cell (p := ⟨gA, 3, none⟩) hgl).trans x3
    have q4 := (hH.cell (p := ⟨gA, 4, none⟩) hgl).trans x4
    have q5 := (hH.cell (p := ⟨gA, 5, none⟩) hgl).trans x5
    have q6 := (hH.cell (p := ⟨gA, 6, none⟩) hgl).trans x6
    have q7 := (hH.cell (p := ⟨gA, 7, none⟩) hgl).trans x7
    have q8 := (hH.cell (p := ⟨gA, 8, none⟩) hgl).trans x8
    go_simp
    with_reducible rfl)
   refine zU 4 rfl hS ?_ (hy := fun W hH => by
    have q0 := (hH.cell (p := ⟨gA, 0, none⟩) hgl).trans x0
    have q1 := (hH.cell (p := ⟨gA, 1, none⟩) hgl).trans x1
    have q2 := (hH.cell (p := ⟨gA, 2, none⟩) hgl).trans x2
    have q3 := (hH.cell (p := ⟨gA, 3, none⟩) hgl).trans x3
    have q4 := (hH.cell (p := ⟨gA, 4, none⟩) hgl).trans x4
    have q5 := (hH.cell (p := ⟨gA, 5, none⟩) hgl).trans x5
    have q6 := (hH.cell (p := ⟨gA, 6, none⟩) hgl).trans x6
    have q7 := (hH.cell (p := ⟨gA, 7, none⟩) hgl).trans x7
    have q8 := (hH.cell (p := ⟨gA, 8, none⟩) hgl).trans x8
    go_simp
    with_reducible rfl)
   refine zR 3 rfl (fun K' hK' => ?_)
   go_simp
   refine (HBY.out _ hS).mono ?_
   rintro e wa ⟨A3, n3, c3, rfl, s3, ba⟩
   have hS1 := hS.trans (ba.mono hS.size)
   go_simp
   refine hK'.out _ _ hS1 (fun hS => ?_)
   clear hK' K'
   refine zR 5 rfl (fun K' hK' => ?_)
   go_simp
   refine (HPC.out A3 n3 c3 _).mono ?_
   rintro e wb ⟨rfl, bb, p1, p2, p3⟩
   have s3 := s3.up bb
   have hS1 := hS.trans (bb.mono hS.size)
   have HS3 := Lib.hid (And.intro s3 (And.intro p1 (And.intro p2 p3)))
   have hbz := bb.size
   have hbp := p3.lt
   have hsV := hS.size
   clear s3 p1 p2 p3 ba
   go_simp
   refine hK'.out _ _ hS1 (fun hS => ?_)
   clear hK' K'
   refine wpAnyH_done (by kernel_rfl) ?_ _
   refine noPanic_normal ?_
   obtain ⟨bt, hbt⟩ : ∃ q, wa.heap.size = q := ⟨_, rfl⟩
   have hbV : V.heap.size ≤ bt := by rw [← hbt]; exact hsV
   rw [hbt] at HS3 hbz hbp
   simp only [hbt]
   have HP1 := Lib.hid (HPV.out.below hS (by omega) (by have := hsV; have := HB1.out.size; omega))
   have hBb : B ≤ bt := by have := HB1.out.size; omega
   have hq := HMA.out
   have hl3 : (bytesA req ac).length = n3 := HS3.out.1.1
   have hn3 := numP_len t req ac n3 hl3
   obtain ⟨ga, offa, hga⟩ : ∃ ga offa, 0 < n3 → A3 = some ⟨ga, offa, none⟩ := by
    by_cases h0 : 0 < n3
    ·obtain ⟨ga, offa, e, _⟩ := HS3.out.1.some_ h0
     exact ⟨ga, offa, fun _ => e⟩
    ·exact ⟨0, 0, fun h => absurd h h0⟩
   have HGA := Lib.hid hga
   have HL3 := Lib.hid (And.intro hl3 hn3)
   have HBX := Lib.hid (hS)
   have HBt := Lib.hid hbt
   have hDs : ∀ D ∈ Ds, D < wb.heap.size := fun D hD => by
    obtain ⟨ys, a1, a2, a3, a4, a5, a6, a7⟩ := HP1.out
    exact (Array.getElem?_eq_some_iff.1 (a7.2 D hD).2).1
   have HDS := Lib.hid hDs
   have hwr : 0 ≤ ac.wait ∧ ac.wait ≤ 1073741824 := hq.2.1
   have hgr : 0 ≤ ac.gap ∧ ac.gap ≤ 1073741824 := hq.2.2.1
   obtain ⟨zs0, hzs0⟩ : ∃ z, playL t req (l.take i) = z := ⟨_, rfl⟩
   have HZS := Lib.hid (show playL t req (l.take (i + 1)) = zs0 ++ actL t req ac by rw [← hzs0]; exact playL_next t req l i ac HAC.out)
   rw [hzs0] at HP1
   have hzl : zs0.length ≤ 40 := by
    rw [← hzs0]
    refine Nat.le_trans (playL_len t req _) ?_
    rw [List.length_take]; omega
   clear hS hbt hga hl3 hn3 hDs hq x0 x1 x2 x3 x4 x5 x6 x7 x8 HB1 HX HBY HPC HP HPV hS1 hzs0
   have hsq := pieces_seq Fence.wide 6 trivial rfl (by omega) bt (bt + 1) (bt + 2) t ac Ar nr cr D nd cd A3 ga offa n3 c3 wb HGA.out HS3.out.2.1 HS3.out.2.2.1 HS3.out.2.2.2 ht hwr hgr HS3.out.1.2.1 HS3.out.1.2.2.1
   have HSQ := Lib.hid hsq
   clear hsq
   go_wp2_with fail
   refine wpIn_wide.1 (wpIn_range_v (n := 7) rfl (by omega) (gf := 90) (lb := #[.pointer (some ⟨bt + 1, 0, none⟩), .pointer (some ⟨bt + 2, 0, none⟩), .pointer (some ⟨bt, 0, none⟩)]) rfl trivial (enters_of Tryd.func90 (by kernel_rfl) rfl)
    HSQ.out (fun h k => ⟨k.1.trans h.1, k.2.1.trans h.2.1, k.2.2.trans h.2.2⟩)
    (fun X l o o' hl ho h1 h2 => ⟨World.putObj_heap_other (by omega), World.putObj_heap_other (by omega), World.putObj_heap_other (by omega)⟩)
    (fun X X' hx k o hk ho hc => by obtain ⟨A', n', c', rfl⟩ := hx; exact (KeepsOthers.setCell X _ _).same k o ho hc)
    (fun k => encP_size _ _ _ _ _ _ _)
    (fun k X => ∃ v, PlI (zs0 ++ (actL t req ac).take k) gO B w3 Ds v X ∧ SlI X X.heap.size .u8 A3 n3 c3 (bytesA req ac) ∧ (∃ s, Held X (bt + 1) 22 #[s] ∧ NoU8 s) ∧ (Held X bt 2 #[.int .i64 t] ∧ Held X (bt + 2) 29 (ac.cells Ar nr cr D nd cd)) ∧ wb.heap.size ≤ X.heap.size) (fun _ _ _ => False) ?own (fun _ _ _ _ _ h _ _ => h) ?oiter (fun _ _ _ _ _ h => h) (fun _ _ _ => trivial)
    ⟨v, by rw [List.take_zero, List.append_nil]; exact HP1.out, HS3.out.1, ⟨_, HS3.out.2.2.1, fun x h => by cases h⟩, ⟨HS3.out.2.1, HS3.out.2.2.2⟩, Nat.le_refl _⟩
    (fun k a' X => ∃ (z0 z1 z2 z3 z4 z5 z6 z7 z9 z10 z12 z13 z14 z15 z16 z17 z18 z19 z20 z21 z22 z23 z24 z25 z26 z27 z28 z29 z30 z31 z32 z33 z34 z35 z36 z37 z38 z39 z40 : Value) (p : Nat) (cs : Array Value), a' = { tmps := #[z0, z1, z2, z3, z4, z5, z6, z7, .pointer (some ⟨gO, 0, none⟩), z9, z10, .pointer (some ⟨p, 0, none⟩), z12, z13, z14, z15, z16, z17, z18, z19, z20, z21, z22, z23, z24, z25, z26, z27, z28, z29, z30, z31, z32, z33, z34, z35, z36, z37, z38, z39, z40], defers := [] } ∧ wb.heap.size ≤ p ∧ encP (t + ac.wait) ac.gap ga offa n3 c3 k = #[.agg cs] ∧ Held X p 51 cs)
    ?hao ?assign ?body ?done ?stop)
   case own =>
    rintro k X Y row ⟨v, h1, h2, ⟨s, h3, h4⟩, ⟨h6, h7⟩, h5⟩ hg hr
    exact ⟨v, PlI.own HDS.out hgB (by omega) HB.out () X Y row h1 hg hr, h2.k8 (K8.other hg fun r e => (hr r e).2), ⟨s, held_ownFrom () X Y row h3 hg hr, h4⟩, ⟨held_ownFrom () X Y row h6 hg hr, held_ownFrom () X Y row h7 hg hr⟩, Nat.le_trans h5 hg.size⟩
   case oiter =>
    rintro k X X' ⟨A', n', c', rfl⟩ ⟨v, h1, h2, ⟨s, h3, h4⟩, ⟨h6, h7⟩, h5⟩
    exact ⟨v, h1.box h3 h4 hgB (by omega) _, h2.k8 (K8.set h3 h4 _), ⟨_, h3.set 0 _, fun x h => by cases h⟩, ⟨h6.far (by show bt ≠ bt + 1; omega) _, h7.far (by show bt + 2 ≠ bt + 1; omega) _⟩, by simpa using h5⟩
   case hao =>
    rintro k a' _ X Y row ⟨z0, z1, z2, z3, z4, z5, z6, z7, z9, z10, z12, z13, z14, z15, z16, z17, z18, z19, z20, z21, z22, z23, z24, z25, z26, z27, z28, z29, z30, z31, z32, z33, z34, z35, z36, z37, z38, z39, z40, p, cs, h1, h2, h3, h4⟩ hg hr
    exact ⟨z0, z1, z2, z3, z4, z5, z6, z7, z9, z10, z12, z13, z14, z15, z16, z17, z18, z19, z20, z21, z22, z23, z24, z25, z26, z27, z28, z29, z30, z31, z32, z33, z34, z35, z36, z37, z38, z39, z40, p, cs, h1, h2, h3, held_ownFrom () X Y row h4 hg hr⟩
   case assign =>
    rintro l' k Y K hl hT ⟨v, h1, h2, ⟨s, h3, h4⟩, ⟨h6, h7⟩, h5⟩ hK
    obtain ⟨at_, Ak, nk, ck, d, he, _, _⟩ := enc_act t req ac ga offa n3 c3 k HL3.out.1 hT
    rw [he]
    have ba := (Below.refl Y.heap.size Y).alloc (Nat.le_refl _) (.cells #[.int .i64 at_, .slice Ak nk ck] 51)
    have H1 := Lib.hid (And.intro (h1.below ba (by omega) (by omega)) (And.intro (h2.k8 (K8.below ba)) (And.intro (h3.below ba h3.lt) (And.intro (h6.below ba h6.lt) (h7.below ba h7.lt)))))
    have HKp := Lib.hid (show KpP bt (bt + 1) (bt + 2) Y (Y.alloc (.cells #[.int .i64 at_, .slice Ak nk ck] 51)) from ⟨ba.block bt (by omega), ba.block (bt + 1) (by omega), ba.block (bt + 2) (by omega)⟩)
    have HE := Lib.hid he
    clear h1 h2 h3 h6 h7 ba he
    gi_wp2
    exact hK _ _ ((KeepsOthers.alloc _ _).from _) HKp.out ⟨v, H1.out.1, H1.out.2.1, ⟨s, H1.out.2.2.1, h4⟩, H1.out.2.2.2, by simp; omega⟩ ⟨_, _, _, _, _, _, _, _, _, _, _, _, _, _, _, _, _, _, _, _, _, _, _, _, _, _, _, _, _, _, _, _, _, _, _, _, _, _, _, Y.heap.size, _, rfl, h5, HE.out, Held.new Y _ _⟩
   case body =>
    rintro l' k a' Y hl ⟨r, hr⟩ hT ⟨v, h1, h2, ⟨s, h3, h4⟩, ⟨h6, h7⟩, h5⟩ ⟨z0, z1, z2, z3, z4, z5, z6, z7, z9, z10, z12, z13, z14, z15, z16, z17, z18, z19, z20, z21, z22, z23, z24, z25, z26, z27, z28, z29, z30, z31, z32, z33, z34, z35, z36, z37, z38, z39, z40, p, cs, rfl, hp, hcs, hT2⟩
    obtain ⟨at_, Ak, nk, ck, d, he, htk, hsl⟩ := enc_act t req ac ga offa n3 c3 k HL3.out.1 hT
    rw [he] at hcs
    obtain rfl : #[Value.int .i64 at_, Value.slice Ak nk ck] = cs := by simpa using hcs
    have hn0 : 0 < n3 := by
     rcases Nat.eq_zero_or_pos n3 with h | h
     ·exact absurd hT (by rw [h]; unfold numP; simp)
     ·exact h
    obtain ⟨ys, a1, a2, a3, a4, a5, a6, a7⟩ := h1
    obtain ⟨vA, vc, hvs⟩ := row_slice a2
    have p0 : Y.cell? ⟨p, 0, none⟩ = some (.int .i64 at_) := hT2.cell 0
    have p1 : Y.cell? ⟨p, 1, none⟩ = some (.slice Ak nk ck) := hT2.cell 1
    have o0 : Y.cell? ⟨gO, 0, none⟩ = some v := a1.cell 0
    obtain ⟨Z, hZ⟩ : ∃ Z, Y.alloc (.cells #[.int .i64 at_, .slice Ak nk ck] 51) = Z := ⟨_, rfl⟩
    have bZ := zB1 hZ
    have hzY : Z.heap.size = Y.heap.size + 1 := by rw [← hZ]; simp
    have sZ : SlV Z Z.heap.size (some ⟨Y.heap.size, 0, none⟩) 1 1 2 [.int .i64 at_, .slice Ak nk ck] := by rw [← hZ]; exact SlV.of_lit rfl rfl (by omega)
    have hlen : (zs0 ++ (actL t req ac).take k).length ≤ 42 := by
     rw [List.length_append, List.length_take]
     have := actL_len t req ac; omega
    have hBY : B ≤ Y.heap.size := by omega
    have hns : NoU8 v := by obtain ⟨vA, vc, e⟩ := row_slice a2; rw [e]; intro x h; cases h
    have a1Z := a1.below bZ a1.lt
    have a2Z := lown_up a2 bZ
    have a3Z := a3.same (fun q hq => bZ.block q (a2.lt q hq).2)
    have HA := Lib.hid (And.intro a1Z (And.intro a2Z (And.intro a3Z (And.intro a4 (And.intro (a5.k8 (K8.below bZ)) (And.intro (a6.trans (Lx.below bZ (by omega) hBY)) (And.intro (a7.keep (keepsOthers_below bZ)) (And.intro ((hsl Y (by rw [← HGA.out hn0]; exact h2)).k8 (K8.below bZ)) (And.intro (h2.k8 (K8.below bZ)) hns)))))))))
    have HBZ := Lib.hid bZ
    have HBX := Lib.hid (And.intro (And.intro (h3.below bZ h3.lt) h4) (And.intro (h6.below bZ h6.lt) (h7.below bZ h7.lt)))
    have HTK := Lib.hid htk
    have HN := Lib.hid (And.intro (show (zs0 ++ (actL t req ac).take k).length + 1 ≤ maxLen by unfold maxLen; omega) (show ((zs0 ++ (actL t req ac).take k).length + 1) * 32 ≤ 140737488355328 by omega))
    have HL := Lib.hid hr
    obtain ⟨i0, hi0, hz0, hz1, hz2⟩ := info_parts infoP
    obtain ⟨mk, hmk⟩ : ∃ m, (zs0 ++ (actL t req ac).take k).length = m := ⟨_, rfl⟩
    rw [hmk] at HN a2Z
    have HMK := Lib.hid hmk
    have hBZ : B ≤ Z.heap.size := by omega
    have hgz : gO < Z.heap.size := by omega
    clear a1 a2 a3 a4 a5 a6 a7 h2 h3 h6 h7 hn0 hsl he hcs hT2 htk bZ hvs hr hlen hns hmk a1Z
    gi_wp2_with (gi_at_builtin; refine wpListIn_append_slq Z rfl _ _ 34 rfl B 51 i0 (.agg #[.int .i64 0, .slice none 0 0]) 2 32 Tryd.underlying34 hi0 hz0 hz1 hz2 rfl (by decide) NoU8 (by intro u hu; simp [Value.cells] at hu; rcases hu with rfl | rfl <;> intro x h <;> cases h) v mk (rowC ys) rfl a2Z a3Z Z.heap.size ⟨Y.heap.size, 0, none⟩ 1 1 [.int .i64 at_, .slice Ak nk ck] rfl sZ (by intro u hu; simp at hu; rcases hu with rfl | rfl <;> rfl) (by intro u hu; simp at hu; rcases hu with rfl | rfl <;> intro x h <;> cases h) HN.out.1 HN.out.2 hBZ ?_; intro v' Z' oz hgz2 hvz hqz; obtain ⟨vA', vc', rfl⟩ := row_slice oz; have hOZ := HA.out.1.kept hgz2 (HA.out.1.not_row (by decide) HA.out.2.1); have oZ0 : Z'.cell? ⟨gO, 0, none⟩ = some v := hOZ.cell 0; have oZf := hOZ.frozen 0; have HZ := Lib.hid (And.intro oz (And.intro hgz2 (And.intro hvz hqz))); clear oz hgz2 hvz hqz hOZ)
    have hm := HMK.out
    subst hm
    obtain ⟨q1, q2, q3, q4, q5, q6, q7, q8, q9, q10⟩ := HA.out
    obtain ⟨z1, z2, z3, z4⟩ := HZ.out
    obtain ⟨r1, r2⟩ := PlI.app hgB hBZ q1 q2 q3 q4 q5 q6 q7 q8 z1 z2 z3 z4 q10
    rw [List.append_assoc, ← HTK.out] at r1
    have L := Lx.own (g := gO) q2 z2 (by omega) hBZ
    obtain ⟨⟨g1, g2⟩, g3, g4⟩ := HBX.out
    have n1 := g1.not_row (by decide) q2
    have n2 := g3.not_row (by decide) q2
    have n3 := g4.not_row (by decide) q2
    refine ⟨(((keepsOthers_below HBZ.out).trans L.2).trans (KeepsOthers.setCell _ _ _)).from _, ⟨?_, ?_, ?_⟩, _, r1, q9.k8 r2, ⟨s, (g1.kept z2 n1).far (by show bt + 1 ≠ gO; omega) _, g2⟩, ⟨(g3.kept z2 n2).far (by show bt ≠ gO; omega) _, (g4.kept z2 n3).far (by show bt + 2 ≠ gO; omega) _⟩, by have := z2.size; simp; omega⟩
    ·exact ((Below.heap_setCell _ _ _ _ (by show bt ≠ gO; omega)).trans (z2.block bt (by omega) n2)).trans (HBZ.out.block bt (by omega))
    ·exact ((Below.heap_setCell _ _ _ _ (by show bt + 1 ≠ gO; omega)).trans (z2.block (bt + 1) (by omega) n1)).trans (HBZ.out.block (bt + 1) (by omega))
    ·exact ((Below.heap_setCell _ _ _ _ (by show bt + 2 ≠ gO; omega)).trans (z2.block (bt + 2) (by omega) n3)).trans (HBZ.out.block (bt + 2) (by omega))
   case done =>
    rintro D k Y hD rfl ⟨v, h1, h2, h3, h6, h5⟩ hk
    have hDn : D ∉ Ds := fun hm => by have := HDS.out D hm; omega
    have HPN : Hid (PlI (playL t req (l.take (i + 1))) gO B w3 (D :: Ds) v Y) := Lib.hid (by
     rw [HZS.out]
     rw [HL3.out.2, List.take_length] at h1
     obtain ⟨ys, a1, a2, a3, a4, a5, a6, a7⟩ := h1
     exact ⟨ys, a1, a2, a3, a4, a5, a6, a7.cons (by omega) hDn hk⟩)
    clear h1 h2 h3 h6 hk hDn
    go_wp2_with fail
    refine ⟨⟨i + 1, _, _, _, _, _, _, _, _, _, _, _, D :: Ds, v, rfl, by omega, HPN.out⟩, ?_⟩
    simp [intOf]; omega
   case stop => exact fun D c k Y _ _ h => h.elim
  ·obtain rfl : i = nl := by omega
   have hll2 : l.take i = l := List.take_of_length_le (by omega)
   have hPf := HP.out
   rw [hll2] at hPf
   obtain ⟨ys, a1, a2, a3, a4, a5, a6, a7⟩ := hPf
   have hzl : (playL t req l).length ≤ 40 := by have := playL_len t req l; omega
   have hltI : decide ((i : Int) < (i : Int)) = false := by simp
   have hltN : decide (i < i) = false := by simp
   have hyl : ys.length = (playL t req l).length := by have := congrArg List.length a4; simpa using this
   obtain ⟨zs0, hzs0⟩ : ∃ z, playL t req l = z := ⟨_, rfl⟩
   rw [hzs0] at a2 a4 a5 hzl hyl
   have HZ0 := Lib.hid hzs0
   clear hzs0
   have o0 : W.cell? ⟨gO, 0, none⟩ = some v := a1.cell 0
   by_cases hz0 : zs0.length = 0
   ·have hz : zs0 = [] := List.length_eq_zero_iff.mp hz0
    subst hz
    obtain ⟨vA, vc, hvs, hvn⟩ : ∃ A c, v = .slice A 0 c ∧ PcsI W A 0 c [] := by
     rcases a2.2 with ⟨rfl, _⟩ | ⟨g, cap, cur, rfl, _, hg, h1, h2, _⟩
     ·exact ⟨none, 0, rfl, PcsI.nil _⟩
     ·exact ⟨some ⟨g, 0, none⟩, cap, rfl, ⟨rfl, Nat.zero_le _, h2, (fun e => by cases e), fun h => absurd h (by omega)⟩⟩
    subst hvs
    have HSN := Lib.hid (fun V => sorts_none vA vc V)
    have HMK := Lib.hid a7
    have HPI := Lib.hid hvn
    clear a1 a2 a3 a4 a5 a6 a7 hvn hyl hll2 HP
    have hF2 : Fence.wide.fn 48 := trivial
    go_wp2_with fail
    gi_wp2_with (gi_at_call 48; refine (callsIn_wide.2 (HSN.out _)).mono ?_; rintro e wz ⟨rfl, rfl⟩)
    refine leaves_marks (B := B) (fun V => PcsI V vA 0 vc [] ∧ Below w.heap.size w V) (fun V D hD hk hV => ⟨hV.1.put _ hk rfl, below_put _ hV.2 (by omega)⟩) (fun V hV => ?_) Ds W HMK.out ⟨HPI.out, HBW.out⟩
    exact ⟨_, results_tmp2 rfl _ _ _, vA, 0, vc, [], rfl, hV.1, (by rw [HZ0.out]; exact SortedOf.nil), hV.2⟩
   ·obtain ⟨g, cap, cur, hvs, hgB2, hgc, hnc, hcm, hcs, htk⟩ : ∃ g cap cur, v = .slice (some ⟨g, 0, none⟩) zs0.length cap ∧ B ≤ g ∧ W.heap[g]? = some (.cells cur 51 (0, 0)) ∧ zs0.length ≤ cap ∧ cap ≤ maxLen ∧ cur.size = cap * 2 ∧ cur.toList.take (zs0.length * 2) = rowC ys := by
     rcases a2.2 with ⟨_, h0⟩ | h
     ·exact absurd h0 hz0
     ·exact h
    subst hvs
    have hrow := PcRow.of_own a2
    have hidx : ys.Pairwise (fun x y => x.idx < y.idx) := by
     have h := List.pairwise_lt_range (n := zs0.length)
     rw [← a4, List.pairwise_map] at h
     exact h
    have HSO := Lib.hid (sorts_any g zs0.length cap ys W hrow hyl hzl hidx)
    have hgl := (Array.getElem?_eq_some_iff.1 hgc).1
    have hG : Held W g 51 cur := hgc
    have HA := Lib.hid (And.intro a1 (And.intro a3 (And.intro a4 (And.intro a5 (And.intro a7 hG)))))
    clear a1 a2 a3 a4 a5 a6 a7 hrow hidx hgc hG hcs htk hll2 HP hyl
    have HAFT : ∀ wz, StPost g ys W (.returned (.tuple #[])) wz → ∃ rs, PcsI wz (some ⟨g, 0, none⟩) zs0.length cap rs ∧ SortedOf zs0 rs ∧ Mk B Ds wz ∧ Below w.heap.size w wz ∧ wz.cell? ⟨gO, 0, none⟩ = some (.slice (some ⟨g, 0, none⟩) zs0.length cap) := by
     rintro wz ⟨_, ys2, r1, r2, r3, r4⟩
     obtain ⟨a1, a3, a4, a5, a7, hG⟩ := HA.out
     have hne : gO ≠ g := by omega
     have k8 : K8 W wz := ⟨r4.size, fun j o' x hx => r4.2 j (fun e => (a3.ne (p := ⟨j, o', none⟩) hx (fun h => h x rfl)) (by subst e; rfl)) (World.block_lt_of_cell? W _ hx)⟩
     have hO2 : Held wz gO 34 #[.slice (some ⟨g, 0, none⟩) zs0.length cap] := (r4.2 gO hne a1.lt).trans a1
     have hh : HoldsP zs0 wz ys2 := fun y hy => (a5.k8 k8) y (r2.mem_iff.mp hy)
     obtain ⟨rs, s1, s2, s3⟩ := holds_sorted a4 r2 r3 hh
     have hyl2 : ys2.length = zs0.length := by rw [r2.length_eq]; have := congrArg List.length a4; simpa using this
     have HPI := Lib.hid (show PcsI wz (some ⟨g, 0, none⟩) zs0.length cap rs from ⟨by rw [s2, hyl2], hnc, hcm, (fun e => by cases e), fun _ => ⟨g, rfl, r1.1, fun j z hz => by
      have hj : j < ys2.length := by rw [← s2]; exact (List.getElem?_eq_some_iff.mp hz).1
      obtain ⟨d, e1, e2⟩ := s3 j _ (List.getElem?_eq_getElem hj)
      obtain ⟨c0, c1⟩ := r1.2.2 j _ (List.getElem?_eq_getElem hj)
      rw [hz] at e1
      injection e1 with e1
      subst e1
      exact ⟨_, _, _, c0, c1, e2⟩⟩⟩)
     have HSR := Lib.hid s1
     have HMK : Hid (Mk B Ds wz) := Lib.hid ⟨a7.1, fun D hD => ⟨(a7.2 D hD).1, (r4.2 D (fun e => by
      subst e
      have h1 := (a7.2 D hD).2
      rw [show W.heap[D]? = some (.cells cur 51 (0, 0)) from hG] at h1
      cases h1) (Array.getElem?_eq_some_iff.1 (a7.2 D hD).2).1).trans (a7.2 D hD).2⟩⟩
     have HBZ : Hid (Below w.heap.size w wz) := Lib.hid (HBW.out.trans (r4.below (by omega) HBW.out.size))
     have o2 : wz.cell? ⟨gO, 0, none⟩ = some (.slice (some ⟨g, 0, none⟩) zs0.length cap) := hO2.cell 0
     exact ⟨rs, HPI.out, HSR.out, HMK.out, HBZ.out, o2⟩
    have HAF := Lib.hid HAFT
    have hF2 : Fence.wide.fn 48 := trivial
    clear HAFT
    go_wp2_with fail
    gi_wp2_with (gi_at_call 48; refine (callsIn_wide.2 HSO.out).mono ?_; rintro e wz hpost; have he := hpost.1; subst he; obtain ⟨rs, hq1, hq2, hq3, hq4, o2⟩ := HAF.out wz hpost; have HPI := Lib.hid hq1; have HSR := Lib.hid hq2; have HMK := Lib.hid hq3; have HBZ := Lib.hid hq4; clear hpost hq1 hq2 hq3 hq4)
    refine leaves_marks (B := B) (fun V => PcsI V (some ⟨g, 0, none⟩) zs0.length cap rs ∧ Below w.heap.size w V) (fun V D hD hk hV => ⟨hV.1.put _ hk rfl, below_put _ hV.2 (by omega)⟩) (fun V hV => ?_) Ds wz HMK.out ⟨HPI.out, HBZ.out⟩
    exact ⟨_, results_tmp2 rfl _ _ _, some ⟨g, 0, none⟩, zs0.length, cap, rs, rfl, hV.1, (by rw [HZ0.out]; exact HSR.out), hV.2⟩
end Go.Proofs.YtcipleanckeoaaaDoor
