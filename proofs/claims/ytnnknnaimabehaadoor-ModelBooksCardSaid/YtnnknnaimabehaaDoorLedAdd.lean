/- ledger.Add, May, Len, Seals. -/
import Derived.Test.YtnnknnaimabehaaDoorLedNext
import Derived.Test.YtnnknnaimabehaaDoorLedPlain
import Derived.Test.YtnnknnaimabehaaDoorGuards
import Derived.LoopTactic
import Derived.Test.YtnnknnaimabehaaDoorScope
import Derived.RangeFuncNested
import Derived.RangeFuncBound
import Derived.RangeFuncCalls
import Derived.RangeFuncLeaves
import Derived.Shelf.Abstract
import Derived.Shelf.RegionOpen
import Derived.OwnWalkIn
import Derived.TacticsInMore
import Derived.LoopNIn
import Derived.LoopIn
import Derived.Test.YtnnknnaimabehaaDoorShelf
import Derived.Test.YtnnknnaimabehaaDoorRowUp
import Derived.Sort.Grow
import Derived.Lib.ItoaLen
import Derived.Test.YtnnknnaimabehaaDoorRound
import Derived.Test.YtnnknnaimabehaaDoorOrders
import Derived.Deep.Cut
namespace Go.Proofs.YtnnknnaimabehaaDoor
open Go.RowKit Go.Shelf
attribute [local go_sem] Oper.semAt_some
set_option linter.unusedVariables false
set_option linter.unusedSimpArgs false
set_option maxRecDepth 100000

theorem But.drew {g : Nat} {A B : World} (h : But g A B) : But g A B.drew := ⟨h.1.drew, h.2⟩
/-- What Add tells, and does. -/
def AddPost (b : Bk) (x : Ent) (gb : Nat) (w : World) (e : Ending) (w' : World) : Prop := e = .returned (.int .i64 (addP b x).2) ∧ Held w' gb 69 (addP b x).1.arr ∧ But gb w w'
theorem len_any (K : Int) (b : Bk) (hb : b.ok K) (gb : Nat) (w : World) (hB : Held w gb 69 b.arr) : Calls Tryd.prog 28 #[.pointer (some ⟨gb, 0, none⟩)] w fun e w' => e = .returned (.int .i64 b.many) ∧ w' = w := by
  have hc : w.cell? ⟨gb, 4736, none⟩ = some (.int .i64 b.many) := (hB.cell 4736).trans (b.many_cell hb)
  clear hB
  go_in
  go_wp2
  go_ret
  exact ⟨rfl, rfl⟩
theorem seals_any (K : Int) (b : Bk) (hb : b.ok K) (gb : Nat) (w : World) (hB : Held w gb 69 b.arr) : Calls Tryd.prog 29 #[.pointer (some ⟨gb, 0, none⟩)] w fun e w' => e = .returned (.int .i64 b.seals) ∧ w' = w := by
  have hc : w.cell? ⟨gb, 4737, none⟩ = some (.int .i64 b.seals) := (hB.cell 4737).trans (b.seals_cell hb)
  clear hB
  go_in
  go_wp2
  go_ret
  exact ⟨rfl, rfl⟩
set_option maxHeartbeats 4000000 in
theorem badd_any (K : Int) (h0 : 0 ≤ K) (hK : K < 4611686018427387903) (b : Bk) (hb : b.ok K) (x : Ent) (hx : x.ok) (gb : Nat) (w : World) (hB : Held w gb 69 b.arr) (hT : WordsT w) :
    Calls Tryd.prog 16 #[.pointer (some ⟨gb, 0, none⟩), .agg x.arr] w (AddPost b x gb w) := by
  obtain ⟨X, hX⟩ : ∃ X, x.arr = X := ⟨_, rfl⟩
  have hlen := hx.2.2.2.2.2.2.2.2.2.2.1
  rw [hX]
  have HX := Lib.hid hX
  clear hX
  have hgl := hB.lt
  have hnl := (nextP_ok (K := K) h0 hb x hx).2.hash
  go_in
  go_upto_region 3 with (fail)
  have hX0 : Held (w.alloc (.cells X 63)) w.heap.size 63 X := Held.new w _ _
  have hB0 := hB.alloc (.cells X 63)
  have hb0 : Below w.heap.size w (w.alloc (.cells X 63)) := (Below.refl _ _).alloc (Nat.le_refl _) _
  generalize w.alloc (.cells X 63) = W1 at hX0 hB0 hb0 ⊢
  have HC : Hid (Calls Tryd.prog 32 #[.pointer (some ⟨gb, 0, none⟩), .agg X] W1 fun e w' => e = .returned (.tuple #[.agg (nextP b x).1.arr, .agg (nextP b x).2.1.arr, .int .i64 (nextP b x).2.2]) ∧ Below W1.heap.size W1 w') := Lib.hid (by rw [← HX.out]; exact next_any K hK b hb x hx gb W1 hB0 (hT.up hb0))
  have IX : Hid ((Tryd.prog.info? 63).map (·.size) = some X.size) := Lib.hid (by rw [ent_size x hlen, HX.out])
  obtain ⟨T, hTe⟩ : ∃ T, (nextP b x).1 = T := ⟨_, rfl⟩
  obtain ⟨S, hSe⟩ : ∃ S, (nextP b x).2.1 = S := ⟨_, rfl⟩
  obtain ⟨E, hEe⟩ : ∃ E, (nextP b x).2.2 = E := ⟨_, rfl⟩
  rw [hTe, hSe, hEe] at HC
  rw [hSe] at hnl
  have hsl : S.arr.size = 49 := SumS.arr_size _ hnl
  have ISs : Hid ((Tryd.prog.info? 65).map (·.size) = some S.arr.size) := Lib.hid (by rw [sum_size, hsl])
  have ITs : Hid ((Tryd.prog.info? 56).map (·.size) = some T.arr.size) := Lib.hid tot_size
  have IZ : Hid (S.arr.size = SumS.zero.arr.size) := Lib.hid (by rw [hsl, SumS.arr_size _ rfl])
  have HTE := Lib.hid hTe
  have HSE := Lib.hid hSe
  have HEE := Lib.hid hEe
  clear hTe hSe hEe
  go_upto_region 4 with (first
    | ((with_reducible refine wpList_load_held (dst := some 12) 63 (.tmp 3) w.heap.size 63 X _ (by kernel_rfl) (by kernel_rfl) hX0 Tryd.underlying63 (by kernel_rfl) IX.out ?_); simp only [Act.put, List.setIfInBounds_toArray, List.set_cons_succ, List.set_cons_zero])
    | (go_at_call 32; refine HC.out.mono ?_; rintro e V0 ⟨rfl, hbV⟩; have hX1 := hX0.below hbV hX0.lt; have hB1 := hB0.below hbV hB0.lt; have hb1 := hb0.trans (hbV.mono hb0.size))
    | ((with_reducible refine wpList_alloc_held (dst := some 5) 56 Tot.zero.arr (by kernel_rfl) alloc_tot ?_); intro V1 h5 b5 z5; have l5 : V0.heap.size < V1.heap.size := (by omega); clear z5; simp only [Act.put, List.setIfInBounds_toArray, List.set_cons_succ, List.set_cons_zero])
    | ((with_reducible refine wpList_alloc_held (dst := some 6) 65 SumS.zero.arr (by kernel_rfl) alloc_sum ?_); intro V2 h6 b6 z6; have l6 : V1.heap.size < V2.heap.size := (by omega); clear z6; simp only [Act.put, List.setIfInBounds_toArray, List.set_cons_succ, List.set_cons_zero]; replace h5 := h5.below b6 h5.lt)
    | ((with_reducible refine wpList_store_held 56 (.tmp 5) (.tmp 14) V0.heap.size 56 _ T.arr (by kernel_rfl) (by kernel_rfl) (by kernel_rfl) h5 (by kernel_rfl) ITs.out (tot_one _) ?_); intro V3 g5 b3 z3; clear z3; have s3 := b3.size; simp only [Act.put, List.setIfInBounds_toArray, List.set_cons_succ, List.set_cons_zero]; replace h6 := b3.held (by omega) h6)
    | ((with_reducible refine wpList_store_held 65 (.tmp 6) (.tmp 15) V1.heap.size 65 _ S.arr (by kernel_rfl) (by kernel_rfl) (by kernel_rfl) h6 IZ.out ISs.out (sum_one _) ?_); intro V4 g6 b4 z4; clear z4; have s4 := b4.size; simp only [Act.put, List.setIfInBounds_toArray, List.set_cons_succ, List.set_cons_zero]; replace g5 := b4.held (by omega) g5))
  have hbw := hb1.size
  have hbb : Below w.heap.size w V4 := (((hb1.trans (b5.mono hbw)).trans (b6.mono (by omega))).trans (b3.below (by omega) (by omega))).trans (b4.below (by omega) (by omega))
  have b04 : Below V0.heap.size V0 V4 := ((b5.trans (b6.mono (by omega))).trans (b3.below (by omega) (by omega))).trans (b4.below (by omega) (by omega))
  have hX2 := hX1.below b04 hX1.lt
  have hB2 := hB1.below b04 hB1.lt
  have hwX := hX1.lt
  have hV1 : gb < V1.heap.size := by have := hB1.lt; omega
  have hwB := hB1.lt
  clear hX0 hB0 hb0 HC hbV hX1 hB1 hb1 h5 b5 h6 b6 b3 b4 b04
  by_cases hE : E = 0
  · have hok := nextP_e b x (by rw [HEE.out]; exact hE)
    obtain ⟨hk15, hm, hbd, _⟩ := okE_in x hx hok
    clear hok
    obtain ⟨m, hm2⟩ : ∃ m : Nat, x.meter = m := ⟨x.meter.toNat, by omega⟩
    obtain ⟨k, hk2⟩ : ∃ k : Nat, x.band = k := ⟨x.band.toNat, by omega⟩
    have hm3 : m < 64 := by omega
    have hk3 : k < 8 := by omega
    have hm4 : (m : Int) < 64 := by omega
    have hk4 : (k : Int) < 8 := by omega
    have hmn : x.meter.toNat = m := by rw [hm2]; rfl
    have hkn : x.band.toNat = k := by rw [hk2]; rfl
    have hadd : addP b x = if x.kind = 5 then ({ b with many := b.many + 1, seals := b.seals + 1 }, 0) else ({ b with tot := b.tot.set (m * 8 + k) T, sums := b.sums.set m S, ofm := b.ofm.set m (b.ofAt m + 1), many := b.many + 1 }, 0) := by
      unfold addP
      rw [HEE.out, if_neg (by simp [hE]), HTE.out, HSE.out, hmn, hkn]
    obtain ⟨o, ho⟩ : ∃ o, b.ofAt m = o := ⟨_, rfl⟩
    rw [ho] at hadd
    have HO := Lib.hid ho
    have HADD := Lib.hid hadd
    have HM2 := Lib.hid hm2
    have HK2 := Lib.hid hk2
    have hEb : (E != 0) = false := by simp [hE]
    have hxc := ent_cells (e := x) (by rw [HX.out]; exact hX2)
    obtain ⟨xc0, _⟩ := hxc
    have mc : V4.cell? ⟨gb, 4736, none⟩ = some (.int .i64 b.many) := (hB2.cell 4736).trans (b.many_cell hb)
    have mf := hB2.frozen 4736
    have sc : V4.cell? ⟨gb, 4737, none⟩ = some (.int .i64 b.seals) := (hB2.cell 4737).trans (b.seals_cell hb)
    have sf := hB2.frozen 4737
    obtain ⟨hm0, hmK⟩ := hb.m
    obtain ⟨hs0, hsK⟩ := hb.e
    have hgx : w.heap.size ≠ gb := by omega
    have hxg : gb ≠ w.heap.size := by omega
    clear hadd hmn hkn hm2 hk2 hm hbd hE ho
    by_cases h5 : x.kind = 5
    · have HA2 : Hid (addP b x = ({ b with many := b.many + 1, seals := b.seals + 1 }, 0)) := Lib.hid (by rw [HADD.out, if_pos h5])
      rw [h5] at xc0
      clear h5 hk15
      have HBF : Hid (Held ((V4.setCell ⟨gb, 4736, none⟩ (.int .i64 (b.many + 1))).setCell ⟨gb, 4737, none⟩ (.int .i64 (b.seals + 1))) gb 69 ({ b with many := b.many + 1, seals := b.seals + 1 } : Bk).arr) := Lib.hid (by
        have h1 := hB2.set 4736 (.int .i64 (b.many + 1))
        rw [b.many_set hb] at h1
        have h2 := h1.set 4737 (.int .i64 (b.seals + 1))
        rw [Bk.seals_set (K := K + 1) ({ b with many := b.many + 1 } : Bk) { hb.mono (show K ≤ K + 1 by omega) with m := ⟨by show 0 ≤ _ + 1; omega, by show _ + 1 ≤ _ + 1; omega⟩ }] at h2
        exact h2)
      have HBT : Hid (But gb w ((V4.setCell ⟨gb, 4736, none⟩ (.int .i64 (b.many + 1))).setCell ⟨gb, 4737, none⟩ (.int .i64 (b.seals + 1)))) := Lib.hid (((But.of_below hbb).set _ _).set _ _)
      clear hB2
      go_wp2_with fail
      go_ret
      exact ⟨by rw [HA2.out]; rfl, by rw [HA2.out]; exact HBF.out, HBT.out⟩
    · have HA2 : Hid (addP b x = ({ b with tot := b.tot.set (m * 8 + k) T, sums := b.sums.set m S, ofm := b.ofm.set m (o + 1), many := b.many + 1 }, 0)) := Lib.hid (by rw [HADD.out, if_neg h5])
      have h5b : (x.kind == 5) = false := by simpa using h5
      clear h5 hk15
      go_upto_region 10 with (fail)
      obtain ⟨b1, hb1e⟩ : ∃ c : Bk, { b with many := b.many + 1 } = c := ⟨_, rfl⟩
      have hb1 : b1.ok (K + 1) := by rw [← hb1e]; exact { hb.mono (show K ≤ K + 1 by omega) with m := ⟨by show 0 ≤ _ + 1; omega, by show _ + 1 ≤ _ + 1; omega⟩ }
      have HOF : Hid (b1.ofAt m = o) := Lib.hid (by rw [← hb1e]; exact HO.out)
      have HB1E := Lib.hid hb1e
      obtain ⟨wq, hwq⟩ : ∃ W, V4.setCell ⟨gb, 4736, none⟩ (.int .i64 (b.many + 1)) = W := ⟨_, rfl⟩
      have qB : Held wq gb 69 b1.arr := by rw [← hwq, ← hb1e]; have h1 := hB2.set 4736 (.int .i64 (b.many + 1)); rw [b.many_set hb] at h1; exact h1
      have qt : But gb V4 wq := by rw [← hwq]; exact (But.refl gb V4).set _ _
      rw [hwq]
      clear hwq hb1e mc mf sc sf xc0 hB2 hm0 hmK hs0 hsK
      have qX := qt.held (by omega) hX2
      have q5 := qt.held (by omega) g5
      have q6 := qt.held (by omega) g6
      have qq : But gb w wq := (But.of_below hbb).trans qt
      clear qt hX2 g5 g6 hbb
      have hqB := qB.lt
      have hq6 := q6.lt
      obtain ⟨p5, hp5⟩ : ∃ p, V0.heap.size = p := ⟨_, rfl⟩
      obtain ⟨p6, hp6⟩ : ∃ p, V1.heap.size = p := ⟨_, rfl⟩
      simp only [hp5, hp6] at q5 q6 hwX hwB ⊢
      obtain ⟨hp5g, hp6g⟩ : gb < p5 ∧ gb < p6 := ⟨hwB, by rw [← hp6]; exact hV1⟩
      clear hp5 hp6
      obtain ⟨wd, hwd⟩ : ∃ W : World, wq.drew = W := ⟨_, rfl⟩
      have dX : Held wd w.heap.size 63 X := by rw [← hwd]; exact qX
      have d5 : Held wd p5 56 T.arr := by rw [← hwd]; exact q5
      have d6 : Held wd p6 65 S.arr := by rw [← hwd]; exact q6
      have dB : Held wd gb 69 b1.arr := by rw [← hwd]; exact qB
      have dd : But gb w wd := by rw [← hwd]; exact qq.drew
      have hS : Held wd w.heap.size 63 X ∧ Held wd p5 56 T.arr ∧ Held wd p6 65 S.arr := ⟨dX, d5, d6⟩
      have hbz := Bk.arr_size b1 hb1
      have HTH := Lib.hid (dB.there (m * 24 + k * 3) T.arr.size (by rw [hbz]; show m * 24 + k * 3 + 3 ≤ 4738; omega))
      have dB2 : Held (wd.setCells gb (m * 24 + k * 3) T.arr.toList) gb 69 ({ b1 with tot := b1.tot.set (m * 8 + k) T } : Bk).arr := b1.tot_store hb1 m k hm3 hk3 T dB
      have hTK : T.ok (K + 1) := by rw [← HTE.out]; exact (nextP_ok h0 hb x hx).1
      have hb2 : ({ b1 with tot := b1.tot.set (m * 8 + k) T } : Bk).ok (K + 1) := { hb1 with tl := by show (List.set _ _ _).length = _; rw [List.length_set]; exact hb1.tl, t := fun t ht => (List.mem_or_eq_of_mem_set ht).elim (fun h => hb1.t t h) (fun h => h ▸ hTK) }
      have hbz2 := Bk.arr_size _ hb2
      have HTS := Lib.hid (dB2.there (1536 + m * 49) S.arr.size (by rw [hbz2, hsl]; omega))
      have dB3 := Bk.sum_store _ hb2 m hm3 S hnl dB2
      have HB3 := Lib.hid dB3
      have HDD := Lib.hid dd
      have hSK : S.ok (K + 1) := by rw [← HSE.out]; exact (nextP_ok h0 hb x hx).2
      have hb3 : ({ b1 with tot := b1.tot.set (m * 8 + k) T, sums := b1.sums.set m S } : Bk).ok (K + 1) := { hb2 with sl := by show (List.set _ _ _).length = _; rw [List.length_set]; exact hb1.sl, s := fun s hs => (List.mem_or_eq_of_mem_set hs).elim (fun h => hb1.s s h) (fun h => h ▸ hSK) }
      clear qX q5 q6 qB qq dX d5 d6 dB dd dB2 dB3 hTK hSK hbz hbz2 hb2
      refine wp_region_held (S := fun W => Held W w.heap.size 63 X ∧ Held W p5 56 T.arr ∧ Held W p6 65 S.arr) (by kernel_rfl) ?_
      change wpAnyH _ _ _ _ _ _ _ _ wq.drew
      rw [hwd]
      clear hwd
      refine wpAnyH_take (i := 0) (v := ?v0_1) rfl (by kernel_rfl) (by kernel_rfl) (by kernel_rfl) (fun _ _ _ h => h) (Or.inl ⟨by rfl, ?y0_1⟩) hS ?r0_1
      case y0_1 =>
        rintro W hH
        go_simp
        with_reducible rfl
      simp only [Act.put]
      try simp only [List.getElem_toArray, List.getElem_cons_zero]
      try simp only [List.setIfInBounds_toArray, List.set_cons_succ, List.set_cons_zero]
      refine wpAnyH_take (i := 1) (v := ?v1_2) rfl (by kernel_rfl) (by kernel_rfl) (by kernel_rfl) (fun _ _ _ h => h) (Or.inl ⟨by rfl, ?y1_2⟩) hS ?r1_2
      case y1_2 =>
        rintro W hH
        go_simp
        with_reducible rfl
      simp only [Act.put]
      try simp only [List.getElem_toArray, List.getElem_cons_succ, List.getElem_cons_zero]
      try simp only [List.setIfInBounds_toArray, List.set_cons_succ, List.set_cons_zero]
      refine wpAnyH_take (i := 2) (v := ?v2_3) rfl (by kernel_rfl) (by kernel_rfl) (by kernel_rfl) (fun _ _ _ h => h) (Or.inl ⟨by rfl, ?y2_3⟩) hS ?r2_3
      case y2_3 =>
        rintro W hH
        have xc := ent_cells (e := x) (by rw [HX.out]; exact hH.1)
        obtain ⟨_, xc1, _, _, xc4, _⟩ := xc
        rw [HM2.out] at xc1
        rw [HK2.out] at xc4
        go_simp
        with_reducible rfl
      simp only [Act.put]
      try simp only [List.getElem_toArray, List.getElem_cons_succ, List.getElem_cons_zero]
      try simp only [List.setIfInBounds_toArray, List.set_cons_succ, List.set_cons_zero]
      refine wpAnyH_take (i := 3) (v := ?v3_4) rfl (by kernel_rfl) (by kernel_rfl) (by kernel_rfl) (fun _ _ _ h => h) (Or.inl ⟨by rfl, ?y3_4⟩) hS ?r3_4
      case y3_4 =>
        rintro W hH
        go_simp
        with_reducible rfl
      simp only [Act.put]
      try simp only [List.getElem_toArray, List.getElem_cons_succ, List.getElem_cons_zero]
      try simp only [List.setIfInBounds_toArray, List.set_cons_succ, List.set_cons_zero]
      refine wpAnyH_take (i := 4) (v := ?v4_5) rfl (by kernel_rfl) (by kernel_rfl) (by kernel_rfl) (fun _ _ _ h => h) (Or.inl ⟨by rfl, ?y4_5⟩) hS ?r4_5
      case y4_5 =>
        rintro W hH
        have xc := ent_cells (e := x) (by rw [HX.out]; exact hH.1)
        obtain ⟨_, xc1, _, _, xc4, _⟩ := xc
        rw [HM2.out] at xc1
        rw [HK2.out] at xc4
        go_simp
        with_reducible rfl
      simp only [Act.put]
      try simp only [List.getElem_toArray, List.getElem_cons_succ, List.getElem_cons_zero]
      try simp only [List.setIfInBounds_toArray, List.set_cons_succ, List.set_cons_zero]
      refine wpAnyH_take (i := 5) (v := ?v5_6) rfl (by kernel_rfl) (by kernel_rfl) (by kernel_rfl) (fun _ _ _ h => h) (Or.inl ⟨by rfl, ?y5_6⟩) hS ?r5_6
      case y5_6 =>
        rintro W hH
        go_simp
        with_reducible rfl
      simp only [Act.put]
      try simp only [List.getElem_toArray, List.getElem_cons_succ, List.getElem_cons_zero]
      try simp only [List.setIfInBounds_toArray, List.set_cons_succ, List.set_cons_zero]
      refine wpAnyH_take (i := 6) (v := ?v6_7) rfl (by kernel_rfl) (by kernel_rfl) (by kernel_rfl) (fun _ _ _ h => h) (Or.inl ⟨by rfl, ?y6_7⟩) hS ?r6_7
      case y6_7 =>
        rintro W hH
        go_simp
        with_reducible rfl
      simp only [Act.put]
      try simp only [List.getElem_toArray, List.getElem_cons_succ, List.getElem_cons_zero]
      try simp only [List.setIfInBounds_toArray, List.set_cons_succ, List.set_cons_zero]
      refine wpAnyH_take (i := 7) (v := ?v7_8) rfl (by kernel_rfl) (by kernel_rfl) (by kernel_rfl) (fun _ _ _ h => h) (Or.inl ⟨by rfl, ?y7_8⟩) hS ?r7_8
      case y7_8 =>
        rintro W hH
        have xc := ent_cells (e := x) (by rw [HX.out]; exact hH.1)
        obtain ⟨_, xc1, _, _, xc4, _⟩ := xc
        rw [HM2.out] at xc1
        rw [HK2.out] at xc4
        go_simp
        with_reducible rfl
      simp only [Act.put]
      try simp only [List.getElem_toArray, List.getElem_cons_succ, List.getElem_cons_zero]
      try simp only [List.setIfInBounds_toArray, List.set_cons_succ, List.set_cons_zero]
      refine wpAnyH_take (i := 8) (v := Value.agg T.arr) rfl (by kernel_rfl) (by kernel_rfl) (by kernel_rfl) (fun _ _ _ h => h) ?y8_9 hS ?r8_9
      case y8_9 => exact yieldsIf_load_held (by kernel_rfl) 56 (.tmp 5) rfl p5 56 T.arr _ (by kernel_rfl) (fun _ h => h.2.1) Tryd.underlying56 (by kernel_rfl) tot_size
      simp only [Act.put]
      try simp only [List.getElem_toArray, List.getElem_cons_succ, List.getElem_cons_zero]
      try simp only [List.setIfInBounds_toArray, List.set_cons_succ, List.set_cons_zero]
      refine wpAnyH_take (i := 9) (v := Value.agg S.arr) rfl (by kernel_rfl) (by kernel_rfl) (by kernel_rfl) (fun _ _ _ h => h) ?y9_10 hS ?r9_10
      case y9_10 => exact yieldsIf_load_held (by kernel_rfl) 65 (.tmp 6) rfl p6 65 S.arr _ (by kernel_rfl) (fun _ h => h.2.2) Tryd.underlying65 (by kernel_rfl) ISs.out
      simp only [Act.put]
      try simp only [List.getElem_toArray, List.getElem_cons_succ, List.getElem_cons_zero]
      try simp only [List.setIfInBounds_toArray, List.set_cons_succ, List.set_cons_zero]
      refine wpAnyH_take (i := 10) (v := ?v10_11) rfl (by kernel_rfl) (by kernel_rfl) (by kernel_rfl) (fun _ _ _ h => h) (Or.inl ⟨by rfl, ?y10_11⟩) hS ?r10_11
      case y10_11 =>
        rintro W hH
        go_simp
        with_reducible rfl
      simp only [Act.put]
      try simp only [List.getElem_toArray, List.getElem_cons_succ, List.getElem_cons_zero]
      try simp only [List.setIfInBounds_toArray, List.set_cons_succ, List.set_cons_zero]
      refine wpAnyH_take (i := 11) (v := ?v11_12) rfl (by kernel_rfl) (by kernel_rfl) (by kernel_rfl) (fun _ _ _ h => h) (Or.inl ⟨by rfl, ?y11_12⟩) hS ?r11_12
      case y11_12 =>
        rintro W hH
        go_simp
        with_reducible rfl
      simp only [Act.put]
      try simp only [List.getElem_toArray, List.getElem_cons_succ, List.getElem_cons_zero]
      try simp only [List.setIfInBounds_toArray, List.set_cons_succ, List.set_cons_zero]
      refine wpAnyH_take (i := 12) (v := ?v12_13) rfl (by kernel_rfl) (by kernel_rfl) (by kernel_rfl) (fun _ _ _ h => h) (Or.inl ⟨by rfl, ?y12_13⟩) hS ?r12_13
      case y12_13 =>
        rintro W hH
        go_simp
        with_reducible rfl
      simp only [Act.put]
      try simp only [List.getElem_toArray, List.getElem_cons_succ, List.getElem_cons_zero]
      try simp only [List.setIfInBounds_toArray, List.set_cons_succ, List.set_cons_zero]
      refine wpAnyH_take (i := 13) (v := ?v13_14) rfl (by kernel_rfl) (by kernel_rfl) (by kernel_rfl) (fun _ _ _ h => h) (Or.inl ⟨by rfl, ?y13_14⟩) hS ?r13_14
      case y13_14 =>
        rintro W hH
        go_simp
        with_reducible rfl
      simp only [Act.put]
      try simp only [List.getElem_toArray, List.getElem_cons_succ, List.getElem_cons_zero]
      try simp only [List.setIfInBounds_toArray, List.set_cons_succ, List.set_cons_zero]
      refine wpAnyH_take (i := 15) (v := ?v15_15) rfl (by kernel_rfl) (by kernel_rfl) (by kernel_rfl) (fun _ _ _ h => h) (Or.inl ⟨by rfl, ?y15_15⟩) hS ?r15_15
      case y15_15 =>
        rintro W hH
        go_simp
        with_reducible rfl
      simp only [Act.put]
      try simp only [List.getElem_toArray, List.getElem_cons_succ, List.getElem_cons_zero]
      try simp only [List.setIfInBounds_toArray, List.set_cons_succ, List.set_cons_zero]
      refine wpAnyH_take (i := 16) (v := ?v16_16) rfl (by kernel_rfl) (by kernel_rfl) (by kernel_rfl) (fun _ _ _ h => h) (Or.inl ⟨by rfl, ?y16_16⟩) hS ?r16_16
      case y16_16 =>
        rintro W hH
        go_simp
        with_reducible rfl
      simp only [Act.put]
      try simp only [List.getElem_toArray, List.getElem_cons_succ, List.getElem_cons_zero]
      try simp only [List.setIfInBounds_toArray, List.set_cons_succ, List.set_cons_zero]
      refine wpAnyH_ready (rs := [14]) (by kernel_rfl) (by simp) ?_
      refine AllReadyH.cons rfl (fun K' hK' => ?_) AllReadyH.nil
      refine wp_store_mid 56 (.tmp 50) (.tmp 45) rfl gb (m * 24 + k * 3) T.arr (by kernel_rfl) (by kernel_rfl) HTH.out tot_size (tot_one _) ?_
      simp only [Act.put]
      refine hK'.out _ _ ⟨hS.1.sets_far _ _ _ (by omega), hS.2.1.sets_far _ _ _ (by omega), hS.2.2.sets_far _ _ _ (by omega)⟩ (fun hS => ?_)
      clear hK' K'
      refine wpAnyH_take (i := 17) (v := ?v17_17) rfl (by kernel_rfl) (by kernel_rfl) (by kernel_rfl) (fun _ _ _ h => h) (Or.inl ⟨by rfl, ?y17_17⟩) hS ?r17_17
      case y17_17 =>
        rintro W hH
        go_simp
        with_reducible rfl
      simp only [Act.put]
      try simp only [List.getElem_toArray, List.getElem_cons_succ, List.getElem_cons_zero]
      try simp only [List.setIfInBounds_toArray, List.set_cons_succ, List.set_cons_zero]
      refine wpAnyH_ready (rs := [18]) (by kernel_rfl) (by simp) ?_
      refine AllReadyH.cons rfl (fun K' hK' => ?_) AllReadyH.nil
      refine wp_store_mid 65 (.tmp 53) (.tmp 46) rfl gb (1536 + m * 49) S.arr (by kernel_rfl) (by kernel_rfl) HTS.out ISs.out (sum_one _) ?_
      simp only [Act.put]
      refine hK'.out _ _ ⟨hS.1.sets_far _ _ _ (by omega), hS.2.1.sets_far _ _ _ (by omega), hS.2.2.sets_far _ _ _ (by omega)⟩ (fun hS => ?_)
      clear hK' K'
      refine wpAnyH_done (by kernel_rfl) ?_ _
      go_upto_region 11 with (fail)
      obtain ⟨wr, hwr⟩ : ∃ W : World, (wd.setCells gb (m * 24 + k * 3) T.arr.toList).setCells gb (1536 + m * 49) S.arr.toList = W := ⟨_, rfl⟩
      have rB : Held wr gb 69 ({ b1 with tot := b1.tot.set (m * 8 + k) T, sums := b1.sums.set m S } : Bk).arr := by rw [← hwr]; exact HB3.out
      have rX : Held wr w.heap.size 63 X := by rw [← hwr]; exact hS.1
      have rr : But gb w wr := by rw [← hwr]; exact But.sets _ _ (But.sets _ _ HDD.out)
      rw [hwr]
      clear hwr hS HB3 HDD HTH HTS
      obtain ⟨we, hwe⟩ : ∃ W : World, wr.drew = W := ⟨_, rfl⟩
      have eB : Held we gb 69 ({ b1 with tot := b1.tot.set (m * 8 + k) T, sums := b1.sums.set m S } : Bk).arr := by rw [← hwe]; exact rB
      have eX : Held we w.heap.size 63 X := by rw [← hwe]; exact rX
      have ee : But gb w we := by rw [← hwe]; exact rr.drew
      clear rB rX rr
      have hS : Held we w.heap.size 63 X := eX
      have ec : we.cell? ⟨gb, 4672 + m, none⟩ = some (.int .i64 o) := ((eB.cell _).trans (Bk.of_cell _ hb3 m hm3)).trans (by show some (Value.int .i64 (b1.ofAt m)) = _; rw [HOF.out])
      have ef := eB.frozen (4672 + m)
      have hoK := hb.ofAt m hm3
      rw [HO.out] at hoK
      obtain ⟨ho0, hoK⟩ := hoK
      have hwrap : IntKind.i64.wrap (o + 1) = o + 1 := IntWalk.i64_in _ (by omega)
      have hBF : Held (we.setCell ⟨gb, 4672 + m, none⟩ (.int .i64 (o + 1))) gb 69 ({ b1 with tot := b1.tot.set (m * 8 + k) T, sums := b1.sums.set m S, ofm := b1.ofm.set m (o + 1) } : Bk).arr := by
        have := eB.set (4672 + m) (.int .i64 (o + 1))
        rw [Bk.of_set _ hb3 m _ hm3] at this
        exact this
      have HBF := Lib.hid hBF
      have HBT : Hid (But gb w (we.setCell ⟨gb, 4672 + m, none⟩ (.int .i64 (o + 1)))) := Lib.hid (ee.set _ _)
      clear eB eX ee hBF
      refine wp_region_held (S := fun W => Held W w.heap.size 63 X) (by kernel_rfl) ?_
      change wpAnyH _ _ _ _ _ _ _ _ wr.drew
      rw [hwe]
      clear hwe
      refine wpAnyH_take (i := 0) (v := ?v0_501) rfl (by kernel_rfl) (by kernel_rfl) (by kernel_rfl) (fun _ _ _ h => h) (Or.inl ⟨by rfl, ?y0_501⟩) hS ?r0_501
      case y0_501 =>
        rintro W hH
        go_simp
        with_reducible rfl
      simp only [Act.put]
      try simp only [List.getElem_toArray, List.getElem_cons_zero]
      try simp only [List.setIfInBounds_toArray, List.set_cons_succ, List.set_cons_zero]
      refine wpAnyH_take (i := 1) (v := ?v1_502) rfl (by kernel_rfl) (by kernel_rfl) (by kernel_rfl) (fun _ _ _ h => h) (Or.inl ⟨by rfl, ?y1_502⟩) hS ?r1_502
      case y1_502 =>
        rintro W hH
        go_simp
        with_reducible rfl
      simp only [Act.put]
      try simp only [List.getElem_toArray, List.getElem_cons_succ, List.getElem_cons_zero]
      try simp only [List.setIfInBounds_toArray, List.set_cons_succ, List.set_cons_zero]
      refine wpAnyH_take (i := 2) (v := ?v2_503) rfl (by kernel_rfl) (by kernel_rfl) (by kernel_rfl) (fun _ _ _ h => h) (Or.inl ⟨by rfl, ?y2_503⟩) hS ?r2_503
      case y2_503 =>
        rintro W hH
        have xc := ent_cells (e := x) (by rw [HX.out]; exact hH)
        obtain ⟨_, xc1, _⟩ := xc
        rw [HM2.out] at xc1
        go_simp
        with_reducible rfl
      simp only [Act.put]
      try simp only [List.getElem_toArray, List.getElem_cons_succ, List.getElem_cons_zero]
      try simp only [List.setIfInBounds_toArray, List.set_cons_succ, List.set_cons_zero]
      refine wpAnyH_take (i := 3) (v := ?v3_504) rfl (by kernel_rfl) (by kernel_rfl) (by kernel_rfl) (fun _ _ _ h => h) (Or.inl ⟨by rfl, ?y3_504⟩) hS ?r3_504
      case y3_504 =>
        rintro W hH
        go_simp
        with_reducible rfl
      simp only [Act.put]
      try simp only [List.getElem_toArray, List.getElem_cons_succ, List.getElem_cons_zero]
      try simp only [List.setIfInBounds_toArray, List.set_cons_succ, List.set_cons_zero]
      refine wpAnyH_take (i := 4) (v := ?v4_505) rfl (by kernel_rfl) (by kernel_rfl) (by kernel_rfl) (fun _ _ _ h => h) (Or.inl ⟨by rfl, ?y4_505⟩) hS ?r4_505
      case y4_505 =>
        rintro W hH
        go_simp
        with_reducible rfl
      simp only [Act.put]
      try simp only [List.getElem_toArray, List.getElem_cons_succ, List.getElem_cons_zero]
      try simp only [List.setIfInBounds_toArray, List.set_cons_succ, List.set_cons_zero]
      refine wpAnyH_take (i := 5) (v := ?v5_506) rfl (by kernel_rfl) (by kernel_rfl) (by kernel_rfl) (fun _ _ _ h => h) (Or.inl ⟨by rfl, ?y5_506⟩) hS ?r5_506
      case y5_506 =>
        rintro W hH
        go_simp
        with_reducible rfl
      simp only [Act.put]
      try simp only [List.getElem_toArray, List.getElem_cons_succ, List.getElem_cons_zero]
      try simp only [List.setIfInBounds_toArray, List.set_cons_succ, List.set_cons_zero]
      refine wpAnyH_take (i := 8) (v := ?v8_507) rfl (by kernel_rfl) (by kernel_rfl) (by kernel_rfl) (fun _ _ _ h => h) (Or.inl ⟨by rfl, ?y8_507⟩) hS ?r8_507
      case y8_507 =>
        rintro W hH
        go_simp
        with_reducible rfl
      simp only [Act.put]
      try simp only [List.getElem_toArray, List.getElem_cons_succ, List.getElem_cons_zero]
      try simp only [List.setIfInBounds_toArray, List.set_cons_succ, List.set_cons_zero]
      refine wpAnyH_take (i := 9) (v := ?v9_508) rfl (by kernel_rfl) (by kernel_rfl) (by kernel_rfl) (fun _ _ _ h => h) (Or.inl ⟨by rfl, ?y9_508⟩) hS ?r9_508
      case y9_508 =>
        rintro W hH
        go_simp
        with_reducible rfl
      simp only [Act.put]
      try simp only [List.getElem_toArray, List.getElem_cons_succ, List.getElem_cons_zero]
      try simp only [List.setIfInBounds_toArray, List.set_cons_succ, List.set_cons_zero]
      refine wpAnyH_ready (rs := [6]) (by kernel_rfl) (by simp) ?_
      refine AllReadyH.cons rfl (fun K' hK' => ?_) AllReadyH.nil
      go_simp
      refine hK'.out _ _ hS (fun hS => ?_)
      clear hK' K'
      refine wpAnyH_take (i := 7) (v := ?v7_509) rfl (by kernel_rfl) (by kernel_rfl) (by kernel_rfl) (fun _ _ _ h => h) (Or.inl ⟨by rfl, ?y7_509⟩) hS ?r7_509
      case y7_509 =>
        rintro W hH
        go_simp
        with_reducible rfl
      simp only [Act.put]
      try simp only [List.getElem_toArray, List.getElem_cons_succ, List.getElem_cons_zero]
      try simp only [List.setIfInBounds_toArray, List.set_cons_succ, List.set_cons_zero]
      refine wpAnyH_take (i := 10) (v := ?v10_510) rfl (by kernel_rfl) (by kernel_rfl) (by kernel_rfl) (fun _ _ _ h => h) (Or.inl ⟨by rfl, ?y10_510⟩) hS ?r10_510
      case y10_510 =>
        rintro W hH
        go_simp
        with_reducible rfl
      simp only [Act.put]
      try simp only [List.getElem_toArray, List.getElem_cons_succ, List.getElem_cons_zero]
      try simp only [List.setIfInBounds_toArray, List.set_cons_succ, List.set_cons_zero]
      refine wpAnyH_ready (rs := [11]) (by kernel_rfl) (by simp) ?_
      refine AllReadyH.cons rfl (fun K' hK' => ?_) AllReadyH.nil
      go_simp
      refine hK'.out _ _ (hS.far (p := ⟨gb, 4672 + m, none⟩) (by show w.heap.size ≠ gb; omega) _) (fun hS => ?_)
      clear hK' K'
      refine wpAnyH_done (by kernel_rfl) ?_ _
      go_wp2_with fail
      go_ret
      exact ⟨by rw [HA2.out]; rfl, by rw [HA2.out]; have := HBF.out; rw [← HB1E.out] at this; exact this, HBT.out⟩
  · have hEb : (E != 0) = true := by simp [hE]
    have hadd : addP b x = (b, E) := by unfold addP; rw [HEE.out, if_pos hE]
    have HADD := Lib.hid hadd
    clear hadd hE
    go_wp2_with fail
    go_ret
    exact ⟨by rw [HADD.out]; rfl, by rw [HADD.out]; exact hB2, But.of_below hbb⟩
end Go.Proofs.YtnnknnaimabehaaDoor
namespace Go.Proofs.YtnnknnaimabehaaDoor
open Go.RowKit Go.Shelf
attribute [local go_sem] Oper.semAt_some
set_option linter.unusedVariables false
set_option linter.unusedSimpArgs false
set_option maxRecDepth 100000

theorem is_any (gb : Nat) (m : Int) (w : World) : Calls Tryd.prog 44 #[.pointer (some ⟨gb, 0, none⟩), .int .i64 m] w fun e w' => e = .returned (.bool (decide (0 ≤ m) && decide (m ≤ 63))) ∧ w' = w := by
  by_cases h : 0 ≤ m
  · have h1 : decide (0 ≤ m) = true := by simpa using h
    by_cases h2 : m ≤ 63
    · have h3 : decide (m ≤ 63) = true := by simpa using h2
      go_in
      go_wp2
      go_ret
      exact ⟨by simp [h, h2], rfl⟩
    · have h3 : decide (m ≤ 63) = false := by simpa using h2
      go_in
      go_wp2
      go_ret
      exact ⟨by simp [h, h2], rfl⟩
  · have h1 : decide (0 ≤ m) = false := by simpa using h
    go_in
    go_wp2
    go_ret
    exact ⟨by simp [h], rfl⟩
/-- A total, asked by whatever numbers. -/
def Bk.totI (b : Bk) (m k : Int) : Tot := if (0 ≤ m ∧ m ≤ 63) ∧ 0 ≤ k ∧ k ≤ 7 then b.totAt m.toNat k.toNat else Tot.zero
def Bk.sumI (b : Bk) (m : Int) : SumS := if 0 ≤ m ∧ m ≤ 63 then b.sumAt m.toNat else SumS.zero
set_option maxHeartbeats 2000000 in
theorem total_any (K : Int) (b : Bk) (hb : b.ok K) (gb : Nat) (m k : Int) (w : World) (hB : Held w gb 69 b.arr) :
    Calls Tryd.prog 40 #[.pointer (some ⟨gb, 0, none⟩), .int .i64 m, .int .i64 k] w fun e w' => e = .returned (.agg (b.totI m k).arr) ∧ Below w.heap.size w w' := by
  have HI := Lib.hid (fun v => is_any gb m v)
  by_cases hin : (0 ≤ m ∧ m ≤ 63) ∧ 0 ≤ k ∧ k ≤ 7
  · have HV : Hid (b.totI m k = b.totAt m.toNat k.toNat) := Lib.hid (by unfold Bk.totI; rw [if_pos hin])
    obtain ⟨⟨h1, h2⟩, h3, h4⟩ := hin
    obtain ⟨i, rfl⟩ : ∃ i : Nat, m = i := ⟨m.toNat, by omega⟩
    obtain ⟨j, rfl⟩ : ∃ j : Nat, k = j := ⟨k.toNat, by omega⟩
    have hi : i < 64 := by omega
    have hj : j < 8 := by omega
    have hi4 : (i : Int) < 64 := by omega
    have hj4 : (j : Int) < 8 := by omega
    have hq : (decide (0 ≤ (i : Int)) && decide ((i : Int) ≤ 63)) = true := by simp; omega
    have hk1 : decide ((j : Int) < 0) = false := by simp
    have hk2 : decide (7 < (j : Int)) = false := by simp; omega
    have HQ : Hid (∀ v, Calls Tryd.prog 44 #[.pointer (some ⟨gb, 0, none⟩), .int .i64 i] v fun e w' => e = .returned (.bool true) ∧ w' = v) := Lib.hid (fun v => (HI.out v).mono fun e w' h => ⟨by rw [h.1, hq], h.2⟩)
    have ITs : Hid ((Tryd.prog.info? 56).map (·.size) = some (b.totAt i j).arr.size) := Lib.hid tot_size
    clear h1 h2 h3 h4 hq HI
    go_in
    go_wp2_with (first
      | ((with_reducible refine wpList_alloc_held (dst := some 6) 56 Tot.zero.arr (by kernel_rfl) alloc_tot ?_); intro V1 h6 b6 z6; (have hB1 := hB.below b6 hB.lt); (have l6 : w.heap.size < V1.heap.size := (by omega)); clear z6; simp only [Act.put, List.setIfInBounds_toArray, List.set_cons_succ, List.set_cons_zero])
      | (go_at_call 44; refine (HQ.out _).mono ?_; rintro e w' ⟨rfl, rfl⟩)
      | ((with_reducible refine wpList_load_at (dst := some 27) 56 (.tmp 26) gb (i * 24 + j * 3) (b.totAt i j).cells _ (by kernel_rfl) (by kernel_rfl) (b.tot_range hb i j hi hj hB1) Tryd.underlying56 (by kernel_rfl) (by kernel_rfl) ?_); simp only [Act.put, List.setIfInBounds_toArray, List.set_cons_succ, List.set_cons_zero])
      | ((with_reducible refine wpList_store_held 56 (.tmp 6) (.tmp 27) w.heap.size 56 _ (b.totAt i j).arr (by kernel_rfl) (by kernel_rfl) (by kernel_rfl) h6 (by kernel_rfl) ITs.out (tot_one _) ?_); intro V2 g6 b2 z2; clear z2; simp only [Act.put, List.setIfInBounds_toArray, List.set_cons_succ, List.set_cons_zero]))
    refine bodyPost_ret (results_cell_held rfl _ _ _ _ _ _ (by kernel_rfl) g6 Tryd.underlying56 (by kernel_rfl) ITs.out) rfl ?_
    exact ⟨by rw [HV.out]; rfl, b6.trans (b2.below (Nat.le_refl _) (by omega))⟩
  · have HV : Hid (b.totI m k = Tot.zero) := Lib.hid (by unfold Bk.totI; rw [if_neg hin])
    by_cases hm : 0 ≤ m ∧ m ≤ 63
    · have hq : (decide (0 ≤ m) && decide (m ≤ 63)) = true := by simp; omega
      have HQ : Hid (∀ v, Calls Tryd.prog 44 #[.pointer (some ⟨gb, 0, none⟩), .int .i64 m] v fun e w' => e = .returned (.bool true) ∧ w' = v) := Lib.hid (fun v => (HI.out v).mono fun e w' h => ⟨by rw [h.1, hq], h.2⟩)
      by_cases hk0 : k < 0
      · have hk1 : decide (k < 0) = true := by simpa using hk0
        clear hin hm hq HI hk0
        go_in
        go_wp2_with (first
          | ((with_reducible refine wpList_alloc_held (dst := some 6) 56 Tot.zero.arr (by kernel_rfl) alloc_tot ?_); intro V1 h6 b6 z6; (have hB1 := hB.below b6 hB.lt); (have l6 : w.heap.size < V1.heap.size := (by omega)); clear z6; simp only [Act.put, List.setIfInBounds_toArray, List.set_cons_succ, List.set_cons_zero])
          | (go_at_call 44; refine (HQ.out _).mono ?_; rintro e w' ⟨rfl, rfl⟩)
          | ((with_reducible refine wpList_store_held 56 (.tmp 6) (.tmp 19) w.heap.size 56 _ Tot.zero.arr (by kernel_rfl) (by kernel_rfl) (by kernel_rfl) h6 (by kernel_rfl) (by kernel_rfl) (tot_one _) ?_); intro V2 g6 b2 z2; clear z2; simp only [Act.put, List.setIfInBounds_toArray, List.set_cons_succ, List.set_cons_zero]))
        refine bodyPost_ret (results_cell_held rfl _ _ _ _ _ _ (by kernel_rfl) g6 Tryd.underlying56 (by kernel_rfl) (by kernel_rfl)) rfl ?_
        exact ⟨by rw [HV.out], b6.trans (b2.below (Nat.le_refl _) (by omega))⟩
      · have hk1 : decide (k < 0) = false := by simpa using hk0
        have hk2 : decide (7 < k) = true := by simp; omega
        clear hin hm hq HI hk0
        go_in
        go_wp2_with (first
          | ((with_reducible refine wpList_alloc_held (dst := some 6) 56 Tot.zero.arr (by kernel_rfl) alloc_tot ?_); intro V1 h6 b6 z6; (have hB1 := hB.below b6 hB.lt); (have l6 : w.heap.size < V1.heap.size := (by omega)); clear z6; simp only [Act.put, List.setIfInBounds_toArray, List.set_cons_succ, List.set_cons_zero])
          | (go_at_call 44; refine (HQ.out _).mono ?_; rintro e w' ⟨rfl, rfl⟩)
          | ((with_reducible refine wpList_store_held 56 (.tmp 6) (.tmp 19) w.heap.size 56 _ Tot.zero.arr (by kernel_rfl) (by kernel_rfl) (by kernel_rfl) h6 (by kernel_rfl) (by kernel_rfl) (tot_one _) ?_); intro V2 g6 b2 z2; clear z2; simp only [Act.put, List.setIfInBounds_toArray, List.set_cons_succ, List.set_cons_zero]))
        refine bodyPost_ret (results_cell_held rfl _ _ _ _ _ _ (by kernel_rfl) g6 Tryd.underlying56 (by kernel_rfl) (by kernel_rfl)) rfl ?_
        exact ⟨by rw [HV.out], b6.trans (b2.below (Nat.le_refl _) (by omega))⟩
    · have hq : (decide (0 ≤ m) && decide (m ≤ 63)) = false := by
        rw [Bool.eq_false_iff]; simp; omega
      have HQ : Hid (∀ v, Calls Tryd.prog 44 #[.pointer (some ⟨gb, 0, none⟩), .int .i64 m] v fun e w' => e = .returned (.bool false) ∧ w' = v) := Lib.hid (fun v => (HI.out v).mono fun e w' h => ⟨by rw [h.1, hq], h.2⟩)
      clear hin hm hq HI
      go_in
      go_wp2_with (first
        | ((with_reducible refine wpList_alloc_held (dst := some 6) 56 Tot.zero.arr (by kernel_rfl) alloc_tot ?_); intro V1 h6 b6 z6; (have hB1 := hB.below b6 hB.lt); (have l6 : w.heap.size < V1.heap.size := (by omega)); clear z6; simp only [Act.put, List.setIfInBounds_toArray, List.set_cons_succ, List.set_cons_zero])
        | (go_at_call 44; refine (HQ.out _).mono ?_; rintro e w' ⟨rfl, rfl⟩)
        | ((with_reducible refine wpList_store_held 56 (.tmp 6) (.tmp 19) w.heap.size 56 _ Tot.zero.arr (by kernel_rfl) (by kernel_rfl) (by kernel_rfl) h6 (by kernel_rfl) (by kernel_rfl) (tot_one _) ?_); intro V2 g6 b2 z2; clear z2; simp only [Act.put, List.setIfInBounds_toArray, List.set_cons_succ, List.set_cons_zero]))
      refine bodyPost_ret (results_cell_held rfl _ _ _ _ _ _ (by kernel_rfl) g6 Tryd.underlying56 (by kernel_rfl) (by kernel_rfl)) rfl ?_
      exact ⟨by rw [HV.out], b6.trans (b2.below (Nat.le_refl _) (by omega))⟩
set_option maxHeartbeats 2000000 in
theorem bsum_any (K : Int) (b : Bk) (hb : b.ok K) (gb : Nat) (m : Int) (w : World) (hB : Held w gb 69 b.arr) :
    Calls Tryd.prog 39 #[.pointer (some ⟨gb, 0, none⟩), .int .i64 m] w fun e w' => e = .returned (.agg (b.sumI m).arr) ∧ Below w.heap.size w w' := by
  have HI := Lib.hid (fun v => is_any gb m v)
  have IZ0 : Hid ((Tryd.prog.info? 65).map (·.size) = some SumS.zero.arr.size) := Lib.hid (by rw [sum_size, SumS.arr_size _ rfl])
  by_cases hin : 0 ≤ m ∧ m ≤ 63
  · have HV : Hid (b.sumI m = b.sumAt m.toNat) := Lib.hid (by unfold Bk.sumI; rw [if_pos hin])
    obtain ⟨h1, h2⟩ := hin
    obtain ⟨i, rfl⟩ : ∃ i : Nat, m = i := ⟨m.toNat, by omega⟩
    have hi : i < 64 := by omega
    have hi4 : (i : Int) < 64 := by omega
    have hq : (decide (0 ≤ (i : Int)) && decide ((i : Int) ≤ 63)) = true := by simp; omega
    have HQ : Hid (∀ v, Calls Tryd.prog 44 #[.pointer (some ⟨gb, 0, none⟩), .int .i64 i] v fun e w' => e = .returned (.bool true) ∧ w' = v) := Lib.hid (fun v => (HI.out v).mono fun e w' h => ⟨by rw [h.1, hq], h.2⟩)
    have hbs := hb.sumAt i hi
    have ISs : Hid ((Tryd.prog.info? 65).map (·.size) = some (b.sumAt i).arr.size) := Lib.hid (by rw [sum_size, SumS.arr_size _ hbs.hash])
    have ISl : Hid ((Tryd.prog.info? 65).map (·.size) = some (b.sumAt i).cells.length) := Lib.hid (by rw [sum_size, SumS.cells_len _ hbs.hash])
    have IZ : Hid ((b.sumAt i).arr.size = SumS.zero.arr.size) := Lib.hid (by rw [SumS.arr_size _ hbs.hash, SumS.arr_size _ rfl])
    clear h1 h2 hq HI hbs
    go_in
    go_wp2_with (first
      | ((with_reducible refine wpList_alloc_held (dst := some 4) 65 SumS.zero.arr (by kernel_rfl) alloc_sum ?_); intro V1 h6 b6 z6; (have hB1 := hB.below b6 hB.lt); (have l6 : w.heap.size < V1.heap.size := (by omega)); clear z6; simp only [Act.put, List.setIfInBounds_toArray, List.set_cons_succ, List.set_cons_zero])
      | (go_at_call 44; refine (HQ.out _).mono ?_; rintro e w' ⟨rfl, rfl⟩)
      | ((with_reducible refine wpList_load_at (dst := some 15) 65 (.tmp 14) gb (1536 + i * 49) (b.sumAt i).cells _ (by kernel_rfl) (by kernel_rfl) (b.sum_range hb i hi hB1) Tryd.underlying65 (by kernel_rfl) ISl.out ?_); simp only [Act.put, List.setIfInBounds_toArray, List.set_cons_succ, List.set_cons_zero])
      | ((with_reducible refine wpList_store_held 65 (.tmp 4) (.tmp 15) w.heap.size 65 _ (b.sumAt i).arr (by kernel_rfl) (by kernel_rfl) (by kernel_rfl) h6 IZ.out ISs.out (sum_one _) ?_); intro V2 g6 b2 z2; clear z2; simp only [Act.put, List.setIfInBounds_toArray, List.set_cons_succ, List.set_cons_zero]))
    refine bodyPost_ret (results_cell_held rfl _ _ _ _ _ _ (by kernel_rfl) g6 Tryd.underlying65 (by kernel_rfl) ISs.out) rfl ?_
    exact ⟨by rw [HV.out]; rfl, b6.trans (b2.below (Nat.le_refl _) (by omega))⟩
  · have HV : Hid (b.sumI m = SumS.zero) := Lib.hid (by unfold Bk.sumI; rw [if_neg hin])
    have hq : (decide (0 ≤ m) && decide (m ≤ 63)) = false := by
      rw [Bool.eq_false_iff]; simp; omega
    have HQ : Hid (∀ v, Calls Tryd.prog 44 #[.pointer (some ⟨gb, 0, none⟩), .int .i64 m] v fun e w' => e = .returned (.bool false) ∧ w' = v) := Lib.hid (fun v => (HI.out v).mono fun e w' h => ⟨by rw [h.1, hq], h.2⟩)
    clear hin hq HI
    go_in
    go_wp2_with (first
      | ((with_reducible refine wpList_alloc_held (dst := some 4) 65 SumS.zero.arr (by kernel_rfl) alloc_sum ?_); intro V1 h6 b6 z6; (have hB1 := hB.below b6 hB.lt); (have l6 : w.heap.size < V1.heap.size := (by omega)); clear z6; simp only [Act.put, List.setIfInBounds_toArray, List.set_cons_succ, List.set_cons_zero])
      | (go_at_call 44; refine (HQ.out _).mono ?_; rintro e w' ⟨rfl, rfl⟩)
      | ((with_reducible refine wpList_build_at (dst := some 9) 65 #[] #[] _ (by kernel_rfl) (by kernel_rfl) (build_sum _) ?_); simp only [Act.put, List.setIfInBounds_toArray, List.set_cons_succ, List.set_cons_zero])
      | ((with_reducible refine wpList_store_held 65 (.tmp 4) (.tmp 9) w.heap.size 65 _ SumS.zero.arr (by kernel_rfl) (by kernel_rfl) (by kernel_rfl) h6 (by rfl) IZ0.out (sum_one _) ?_); intro V2 g6 b2 z2; clear z2; simp only [Act.put, List.setIfInBounds_toArray, List.set_cons_succ, List.set_cons_zero]))
    refine bodyPost_ret (results_cell_held rfl _ _ _ _ _ _ (by kernel_rfl) g6 Tryd.underlying65 (by kernel_rfl) IZ0.out) rfl ?_
    exact ⟨by rw [HV.out], b6.trans (b2.below (Nat.le_refl _) (by omega))⟩
theorem book_info : (Tryd.prog.info? 69).map (fun i => (i.zero, i.size)) = some (some (.agg Bk.zero.arr), 4738) := by kernel_rfl
end Go.Proofs.YtnnknnaimabehaaDoor
namespace Go.Proofs.YtnnknnaimabehaaDoor
open Go.RowKit Go.Shelf
attribute [local go_sem] Oper.semAt_some
set_option linter.unusedVariables false
set_option linter.unusedSimpArgs false
set_option maxRecDepth 100000

/-- The meters below a number of which there are some. -/
def metN (b : Bk) (n : Nat) : List Nat := (List.range n).filter fun m => decide (0 < b.ofAt m)
def metI (b : Bk) (n : Nat) : List Int := (metN b n).map fun (m : Nat) => (m : Int)
theorem metI_yes (b : Bk) (n : Nat) (h : 0 < b.ofAt n) : metI b (n + 1) = metI b n ++ [(n : Int)] := by
  unfold metI metN
  rw [List.range_succ, List.filter_append, List.map_append]
  simp [h]
theorem metI_no (b : Bk) (n : Nat) (h : ¬ 0 < b.ofAt n) : metI b (n + 1) = metI b n := by
  unfold metI metN
  rw [List.range_succ, List.filter_append, List.map_append]
  simp [h]
theorem metI_len (b : Bk) (n : Nat) : (metI b n).length ≤ n := by
  unfold metI metN
  rw [List.length_map]
  exact Nat.le_trans (List.length_filter_le _ _) (by simp)
theorem info_int : (Tryd.prog.info? 3).map (fun i => (i.zero, i.size, i.bytes)) = some (some (.int .i64 0), 1, 8) := by kernel_rfl
theorem Bk.of_range {K : Int} (b : Bk) (h : b.ok K) {W : World} {g : Nat} {t : TypeId} (hB : Held W g t b.arr) : W.rangeAt g 4672 (b.ofm.map (Value.int .i64)) := by
  have e : b.cells = (b.tot.flatMap Tot.cells ++ b.sums.flatMap SumS.cells) ++ (b.ofm.map (Value.int .i64) ++ [.int .i64 b.many, .int .i64 b.seals]) := by unfold Bk.cells; simp
  unfold Bk.arr at hB
  rw [e] at hB
  have := held_range hB
  rwa [Bk.head_len b h] at this
theorem index_of {K : Int} (b : Bk) (h : b.ok K) (i : Nat) (hi : i < 64) (w : World) : (Instr.index 67 (.agg (b.ofm.map (Value.int .i64)).toArray) (.int .i64 i)).run Tryd.prog w = .ok (.int .i64 (b.ofAt i)) w := by
  have hs : ∀ w, (sizeOf 3).run Tryd.prog w = .ok 1 w := fun w => Tryd.sizeOf3 w
  have hg : (b.ofm.map (Value.int .i64)).toArray[i]? = some (.int .i64 (b.ofAt i)) := by
    rw [List.getElem?_toArray, List.getElem?_map]
    unfold Bk.ofAt
    rw [List.getD_eq_getElem?_getD, List.getElem?_eq_getElem (by rw [h.ol]; exact hi)]
    rfl
  have hp : ∀ w, (part 3 (b.ofm.map (Value.int .i64)).toArray i).run Tryd.prog w = .ok (.int .i64 (b.ofAt i)) w := fun w => by simp [part, isAgg, run_underlying Tryd.underlying3, hg]
  have hb : (0 : Int) ≤ i ∧ (i : Int) < 64 := by omega
  generalize (b.ofm.map (Value.int .i64)).toArray = X at hp ⊢
  simp [Instr.index, Sem.run_bind, asIntOf, run_underlying Tryd.underlying67, hs, hp, hb.2]
  try (intro h; omega)
/-- What stands at a round's head. -/
def MetR (b : Bk) (w : World) (v i : Value) (wr : World) : Prop := ∃ n : Nat, n ≤ 64 ∧ i = .int .i64 n ∧ wr.ownsRow w.heap.size 3 1 v (metI b n).length ((metI b n).map (Value.int .i64)) ∧ Below w.heap.size w wr
/-- What Meters tells. -/
def MetPost (b : Bk) (w : World) (e : Ending) (w' : World) : Prop := (∃ A c, e = .returned (.slice A (metI b 64).length c) ∧ SlI w' w'.heap.size .i64 A (metI b 64).length c (metI b 64)) ∧ Below w.heap.size w w'
end Go.Proofs.YtnnknnaimabehaaDoor
namespace Go.Proofs.YtnnknnaimabehaaDoor
open Go.RowKit Go.Shelf
attribute [local go_sem] Oper.semAt_some
set_option linter.unusedVariables false
set_option linter.unusedSimpArgs false
set_option maxRecDepth 100000

theorem book_zero (w : World) : (zeroValue 69).run Tryd.prog w = .ok (.agg Bk.zero.arr) w := (zero_of_info book_info).1 w
theorem book_size : (Tryd.prog.info? 69).map (·.size) = some 4738 := (zero_of_info book_info).2
theorem alloc_book (w : World) : (Instr.alloc 69 true (.tuple #[])).run Tryd.prog w = .ok (.pointer (some ⟨w.heap.size, 0, none⟩)) (w.alloc (.cells Bk.zero.arr 69)) := by
  have hz := book_zero
  generalize Bk.zero.arr = Z at hz ⊢
  simp [Instr.alloc, Sem.run_bind, hz, go_sem]
theorem book_ne : Bk.zero.arr ≠ #[] := by
  intro h
  have := congrArg Array.size h
  rw [Bk.arr_size _ Bk.zero_ok] at this
  simp at this
theorem build_book (w : World) : (Instr.build 69 #[]).run Tryd.prog w = .ok (.agg Bk.zero.arr) w := by
  have hz := book_zero
  have hne := book_ne
  generalize Bk.zero.arr = Z at hz hne ⊢
  simp [Instr.build, Sem.run_bind, hz, hne, go_sem]
theorem book_one (b : Bk) : b.arr.all (·.oneCell') = true := by
  rw [Array.all_eq_true_iff_forall_mem]
  intro v hv
  simp only [Bk.arr, Bk.cells, List.mem_toArray, List.mem_append, List.mem_flatMap, List.mem_map, List.mem_cons, List.not_mem_nil, or_false] at hv
  rcases hv with ⟨t, _, h⟩ | ⟨s, _, h⟩ | ⟨n, _, rfl⟩ | rfl | rfl
  · simp [Tot.cells] at h; rcases h with rfl | rfl | rfl <;> rfl
  · have := (Array.all_eq_true_iff_forall_mem.1 (sum_one s)) v (by simpa [SumS.arr] using h)
    exact this
  · rfl
  · rfl
  · rfl
/-- A slice of entries. -/
def EnI (W : World) (A : Option Addr) (n : Nat) (es : List Ent) : Prop := n = es.length ∧ (∀ e ∈ es, e.ok) ∧ ∀ i e, es[i]? = some e → ∃ g o, A = some ⟨g, o, none⟩ ∧ W.rangeAt g (o + i * 42) e.cells
theorem rangeAt_up {W W' : World} {g o : Nat} {cs : List Value} (h : W.rangeAt g o cs) (hb : Below W.heap.size W W') : W'.rangeAt g o cs := fun j v hv => by
  have := h j v hv
  rw [hb.cell (p := ⟨g, o + j, none⟩) (World.block_lt_of_cell? W _ this)]
  exact this
theorem EnI.up {W W' : World} {A : Option Addr} {n : Nat} {es : List Ent} (h : EnI W A n es) (hb : Below W.heap.size W W') : EnI W' A n es :=
  ⟨h.1, h.2.1, fun i e hi => by obtain ⟨g, o, h1, h2⟩ := h.2.2 i e hi; exact ⟨g, o, h1, rangeAt_up h2 hb⟩⟩
/-- A book behind entries, those that may not be left out. -/
def runB (es : List Ent) : Bk := es.foldl (fun b x => (addP b x).1) Bk.zero
theorem runB_snoc (es : List Ent) (x : Ent) : runB (es ++ [x]) = (addP (runB es) x).1 := by unfold runB; rw [List.foldl_append]; rfl
theorem runB_take (es : List Ent) (i : Nat) (x : Ent) (h : es[i]? = some x) : runB (es.take (i + 1)) = (addP (runB (es.take i)) x).1 := by
  rw [List.take_add_one, h]; exact runB_snoc _ _
theorem runB_ok (es : List Ent) (h : ∀ e ∈ es, e.ok) : (runB es).ok es.length := by
  have key : ∀ (l : List Ent) (b : Bk) (K : Int), 0 ≤ K → b.ok K → (∀ e ∈ l, e.ok) → (l.foldl (fun b x => (addP b x).1) b).ok (K + l.length) := by
    intro l
    induction l with
    | nil => intro b K _ hb _; simpa using hb
    | cons x l ih =>
      intro b K hK hb hl
      have := ih (addP b x).1 (K + 1) (by omega) (addP_ok hK hb x (hl x (by simp))) (fun e he => hl e (by simp [he]))
      rw [show K + 1 + (l.length : Int) = K + ((l.length + 1 : Nat) : Int) by omega] at this
      exact this
  have := key es Bk.zero 0 (by omega) Bk.zero_ok h
  simpa [runB] using this
theorem runB_ok_take (es : List Ent) (h : ∀ e ∈ es, e.ok) (i : Nat) (hi : i ≤ es.length) : (runB (es.take i)).ok i := by
  have := runB_ok (es.take i) (fun e he => h e (List.mem_of_mem_take he))
  rwa [List.length_take, Nat.min_eq_left hi] at this
/-- The first entries all may be added. -/
def allOk (es : List Ent) (n : Nat) : Prop := ∀ j x, j < n → es[j]? = some x → (addP (runB (es.take j)) x).2 = 0
/-- What Fold tells. -/
def FoldPost (es : List Ent) (w : World) (e : Ending) (w' : World) : Prop :=
  ((allOk es es.length ∧ ∃ g, e = .returned (.tuple #[.pointer (some ⟨g, 0, none⟩), .int .i64 es.length, .int .i64 0]) ∧ w.heap.size ≤ g ∧ Held w' g 69 (runB es).arr) ∨
    (∃ j x, es[j]? = some x ∧ allOk es j ∧ (addP (runB (es.take j)) x).2 ≠ 0 ∧ e = .returned (.tuple #[.pointer none, .int .i64 j, .int .i64 (addP (runB (es.take j)) x).2]))) ∧ Below w.heap.size w w'
/-- What stands at a round's head. -/
def FoldR (es : List Ent) (w : World) (v : Value) (wr : World) : Prop := ∃ i : Nat, i ≤ es.length ∧ v = .int .i64 i ∧ allOk es i ∧ Held wr w.heap.size 69 (runB (es.take i)).arr ∧ Below w.heap.size w wr
end Go.Proofs.YtnnknnaimabehaaDoor
namespace Go.Proofs.YtnnknnaimabehaaDoor
open Go.RowKit
set_option linter.unusedVariables false
def tS (f : Tot → Int) (b : Bk) (m : Nat) : Nat → Int
  | 0 => 0
  | k + 1 => tS f b m k + f (b.totAt m k)
def sumN (s : SumS) : Int := s.intervals + s.corrected + s.suspects + s.replaced
def aS (b : Bk) : Nat → Int
  | 0 => b.seals
  | m + 1 => aS b m + sumN (b.sumAt m)
structure SumInv (b : Bk) : Prop where
  e : ∀ m, m < 64 → tS Tot.energy b m 8 = (b.sumAt m).energy
  c : ∀ m, m < 64 → tS Tot.cost b m 8 = (b.sumAt m).cost
  n : ∀ m, m < 64 → tS Tot.many b m 8 = (b.sumAt m).intervals + (b.sumAt m).corrected
  f : ∀ m, m < 64 → (b.sumAt m).flagged ≤ (b.sumAt m).intervals
  a : aS b 64 = b.many
theorem getD_rep {α : Type} (n i : Nat) (x : α) : (List.replicate n x).getD i x = x := by
  rw [List.getD_eq_getElem?_getD, List.getElem?_replicate]
  split <;> rfl
theorem zero_tot (m k : Nat) : Bk.zero.totAt m k = Tot.zero := getD_rep _ _ _
theorem zero_sum (m : Nat) : Bk.zero.sumAt m = SumS.zero := getD_rep _ _ _
theorem tS_zero (f : Tot → Int) (h : f Tot.zero = 0) (m k : Nat) : tS f Bk.zero m k = 0 := by
  induction k with
  | zero => rfl
  | succ k ih => unfold tS; rw [ih, zero_tot, h]; rfl
theorem aS_zero (m : Nat) : aS Bk.zero m = 0 := by
  induction m with
  | zero => rfl
  | succ k ih => unfold aS; rw [ih, zero_sum]; rfl
theorem SumInv.zero : SumInv Bk.zero where
  e := fun m _ => by rw [tS_zero _ rfl, zero_sum]; rfl
  c := fun m _ => by rw [tS_zero _ rfl, zero_sum]; rfl
  n := fun m _ => by rw [tS_zero _ rfl, zero_sum]; rfl
  f := fun m _ => by rw [zero_sum]; decide
  a := by rw [aS_zero]; rfl
theorem getD_set {α : Type} (l : List α) (i j : Nat) (x d : α) (h : i < l.length) : (l.set i x).getD j d = if j = i then x else l.getD j d := by
  rw [List.getD_eq_getElem?_getD, List.getD_eq_getElem?_getD, List.getElem?_set]
  by_cases hij : i = j
  · subst hij; simp [h]
  · rw [if_neg hij, if_neg (fun e => hij e.symm)]
/-- A book with another total and sum. -/
def Bk.puts (b : Bk) (m k : Nat) (t : Tot) (s : SumS) (o : List Int) (n : Int) : Bk := { b with tot := b.tot.set (m * 8 + k) t, sums := b.sums.set m s, ofm := o, many := n }
theorem puts_tot {K : Int} {b : Bk} (hb : b.ok K) (m k : Nat) (hm : m < 64) (hk : k < 8) (t : Tot) (s : SumS) (o : List Int) (n : Int) (m' k' : Nat) (hk' : k' < 8) : (b.puts m k t s o n).totAt m' k' = if m' = m ∧ k' = k then t else b.totAt m' k' := by
  unfold Bk.totAt Bk.puts
  dsimp only
  rw [getD_set _ _ _ _ _ (by rw [hb.tl]; omega)]
  by_cases h : m' = m ∧ k' = k
  · rw [if_pos h, if_pos (by omega)]
  · rw [if_neg h, if_neg (by omega)]
theorem puts_sum {K : Int} {b : Bk} (hb : b.ok K) (m k : Nat) (hm : m < 64) (t : Tot) (s : SumS) (o : List Int) (n : Int) (m' : Nat) : (b.puts m k t s o n).sumAt m' = if m' = m then s else b.sumAt m' := by
  unfold Bk.sumAt Bk.puts
  dsimp only
  rw [getD_set _ _ _ _ _ (by rw [hb.sl]; omega)]
theorem puts_tS (f : Tot → Int) {K : Int} {b : Bk} (hb : b.ok K) (m k : Nat) (hm : m < 64) (hk : k < 8) (t : Tot) (s : SumS) (o : List Int) (n : Int) (m' : Nat) : ∀ j, j ≤ 8 → tS f (b.puts m k t s o n) m' j = tS f b m' j + (if m' = m ∧ k < j then f t - f (b.totAt m k) else 0) := by
  intro j
  induction j with
  | zero => intro _; simp [tS]
  | succ j ih =>
    intro hj
    unfold tS
    rw [ih (by omega), puts_tot hb m k hm hk t s o n m' j (by omega)]
    by_cases h1 : m' = m
    · subst h1
      by_cases h2 : j = k
      · subst h2; simp; omega
      · by_cases h3 : k < j
        · rw [if_pos ⟨rfl, h3⟩, if_neg (by omega), if_pos ⟨rfl, by omega⟩]; omega
        · rw [if_neg (by omega), if_neg (by omega), if_neg (by omega)]; omega
    · rw [if_neg (by omega), if_neg (by omega), if_neg (by omega)]; omega
theorem puts_aS {K : Int} {b : Bk} (hb : b.ok K) (m k : Nat) (hm : m < 64) (t : Tot) (s : SumS) (o : List Int) (n : Int) : ∀ j, aS (b.puts m k t s o n) j = aS b j + (if m < j then sumN s - sumN (b.sumAt m) else 0) := by
  intro j
  induction j with
  | zero => simp [aS, Bk.puts]
  | succ j ih =>
    unfold aS
    rw [ih, puts_sum hb m k hm t s o n j]
    by_cases h2 : j = m
    · subst h2; simp; omega
    · by_cases h3 : m < j
      · rw [if_pos h3, if_neg h2, if_pos (by omega)]; omega
      · rw [if_neg h3, if_neg h2, if_neg (by omega)]; omega
theorem sumP_two (a b : Int) (h : (lsumP a b).2 = 0) : (lsumP a b).1 = a + b := by
  unfold lsumP at h ⊢
  split
  · rfl
  · rename_i hn; rw [if_neg hn] at h; simp at h
theorem amounts_zero (t : Tot) (s : SumS) (x : Ent) (h : (amountsP t s x).2.2 = 0) : (amountsP t s x).1 = ⟨t.energy + x.energy, t.cost + x.cost, t.many + 1⟩ ∧ (amountsP t s x).2.1 = { s with energy := s.energy + x.energy, cost := s.cost + x.cost } := by
  unfold amountsP max4 at h
  dsimp only at h
  have a1 := (lsumP_in t.energy x.energy).2.1
  have a2 := (lsumP_in t.cost x.cost).2.1
  have a3 := (lsumP_in s.energy x.energy).2.1
  have a4 := (lsumP_in s.cost x.cost).2.1
  unfold amountsP
  dsimp only
  rw [sumP_two _ _ (by omega), sumP_two _ _ (by omega), sumP_two _ _ (by omega), sumP_two _ _ (by omega)]
  exact ⟨rfl, rfl⟩
/-- What an entry that is added, no seal, changes. -/
structure Delta (t : Tot) (s : SumS) (T : Tot) (S : SumS) : Prop where
  e : T.energy - t.energy = S.energy - s.energy
  c : T.cost - t.cost = S.cost - s.cost
  n : T.many - t.many = (S.intervals + S.corrected) - (s.intervals + s.corrected)
  f : s.flagged ≤ s.intervals → S.flagged ≤ S.intervals
  a : sumN S = sumN s + 1
theorem nextP_delta (b : Bk) (x : Ent) (hx : x.ok) (h : (nextP b x).2.2 = 0) (hk : x.kind ≠ 5) : Delta (b.totAt x.meter.toNat x.band.toNat) (b.sumAt x.meter.toNat) (nextP b x).1 (nextP b x).2.1 := by
  have he := nextP_e b x h
  obtain ⟨hk15, _⟩ := okE_in x hx he
  generalize hT : b.totAt x.meter.toNat x.band.toNat = t
  generalize hS : b.sumAt x.meter.toNat = s
  unfold nextP at h ⊢
  rw [hT, hS] at h ⊢
  rw [if_neg (by simp [he])] at h ⊢
  by_cases k2 : x.kind = 2
  · simp only [if_pos k2] at h ⊢
    exact ⟨by dsimp only; omega, by dsimp only; omega, by dsimp only; omega, fun h => h, by unfold sumN; dsimp only; omega⟩
  by_cases k3 : x.kind = 3
  · simp only [if_neg k2, if_pos k3] at h ⊢
    exact ⟨by dsimp only; omega, by dsimp only; omega, by dsimp only; omega, fun h => h, by unfold sumN; dsimp only; omega⟩
  by_cases k1 : x.kind = 1
  · simp only [if_neg k2, if_neg k3, if_pos k1] at h ⊢
    obtain ⟨e1, e2⟩ := amounts_zero _ _ _ h
    rw [e1, e2]
    exact ⟨by dsimp only; omega, by dsimp only; omega, by dsimp only; omega, fun h => by dsimp only; omega, by unfold sumN; dsimp only; omega⟩
  have k4 : x.kind = 4 := by omega
  simp only [if_neg k2, if_neg k3, if_neg k1, if_pos k4] at h ⊢
  obtain ⟨e1, e2⟩ := amounts_zero _ _ _ h
  rw [e1, e2]
  exact ⟨by dsimp only; omega, by dsimp only; omega, by dsimp only; omega, fun h => h, by unfold sumN; dsimp only; omega⟩
theorem aS_seal (b : Bk) (n s : Int) : ∀ j, aS ({ b with many := n, seals := s } : Bk) j = aS b j + (s - b.seals) := by
  intro j
  induction j with
  | zero => simp [aS]; omega
  | succ j ih =>
    unfold aS
    rw [ih]
    have : ({ b with many := n, seals := s } : Bk).sumAt j = b.sumAt j := rfl
    rw [this]; omega
theorem tS_seal (f : Tot → Int) (b : Bk) (n s : Int) (m : Nat) : ∀ j, tS f ({ b with many := n, seals := s } : Bk) m j = tS f b m j := by
  intro j
  induction j with
  | zero => rfl
  | succ j ih => unfold tS; rw [ih]; rfl
theorem SumInv.add {K : Int} {b : Bk} (hb : b.ok K) (hi : SumInv b) (x : Ent) (hx : x.ok) : SumInv (addP b x).1 := by
  unfold addP
  by_cases h : (nextP b x).2.2 = 0
  · rw [if_neg (by simp [h])]
    by_cases k5 : x.kind = 5
    · rw [if_pos k5]
      refine ⟨fun m hm => ?_, fun m hm => ?_, fun m hm => ?_, fun m hm => ?_, ?_⟩
      · rw [tS_seal]; exact hi.e m hm
      · rw [tS_seal]; exact hi.c m hm
      · rw [tS_seal]; exact hi.n m hm
      · exact hi.f m hm
      · rw [aS_seal, hi.a]; dsimp only; omega
    · rw [if_neg k5]
      have he := nextP_e b x h
      obtain ⟨_, hm1, hk1, _⟩ := okE_in x hx he
      have D := nextP_delta b x hx h k5
      generalize nextP b x = q at D
      obtain ⟨T, S, E⟩ := q
      dsimp only at D ⊢
      generalize b.ofm.set x.meter.toNat (b.ofAt x.meter.toNat + 1) = o
      have hM : x.meter.toNat < 64 := by omega
      have hK : x.band.toNat < 8 := by omega
      generalize x.meter.toNat = m at D hM ⊢
      generalize x.band.toNat = k at D hK ⊢
      show SumInv (b.puts m k T S o (b.many + 1))
      refine ⟨fun m' hm => ?_, fun m' hm => ?_, fun m' hm => ?_, fun m' hm => ?_, ?_⟩
      · rw [puts_tS _ hb m k hM hK T S o _ m' 8 (by omega), puts_sum hb m k hM T S o _ m', hi.e m' hm]
        by_cases h1 : m' = m
        · subst h1; rw [if_pos ⟨rfl, by omega⟩, if_pos rfl]; have := D.e; omega
        · rw [if_neg (by omega), if_neg h1]; omega
      · rw [puts_tS _ hb m k hM hK T S o _ m' 8 (by omega), puts_sum hb m k hM T S o _ m', hi.c m' hm]
        by_cases h1 : m' = m
        · subst h1; rw [if_pos ⟨rfl, by omega⟩, if_pos rfl]; have := D.c; omega
        · rw [if_neg (by omega), if_neg h1]; omega
      · rw [puts_tS _ hb m k hM hK T S o _ m' 8 (by omega), puts_sum hb m k hM T S o _ m', hi.n m' hm]
        by_cases h1 : m' = m
        · subst h1; rw [if_pos ⟨rfl, by omega⟩, if_pos rfl]; have := D.n; omega
        · rw [if_neg (by omega), if_neg h1]; omega
      · rw [puts_sum hb m k hM T S o _ m']
        by_cases h1 : m' = m
        · subst h1; rw [if_pos rfl]; exact D.f (hi.f _ hm)
        · rw [if_neg h1]; exact hi.f _ hm
      · rw [puts_aS hb m k hM T S o _ 64, if_pos hM, hi.a]
        have := D.a
        show _ = b.many + 1
        omega
  · rw [if_pos h]; exact hi
theorem SumInv.run (es : List Ent) (h : ∀ e ∈ es, e.ok) : SumInv (runB es) := by
  have key : ∀ (l : List Ent) (b : Bk) (K : Int), 0 ≤ K → b.ok K → SumInv b → (∀ e ∈ l, e.ok) → SumInv (l.foldl (fun b x => (addP b x).1) b) := by
    intro l
    induction l with
    | nil => intro b K _ _ hi _; exact hi
    | cons x l ih =>
      intro b K hK hb hi hl
      exact ih _ (K + 1) (by omega) (addP_ok hK hb x (hl x (by simp))) (hi.add hb x (hl x (by simp))) (fun e he => hl e (by simp [he]))
  exact key es Bk.zero 0 (by omega) Bk.zero_ok SumInv.zero h
end Go.Proofs.YtnnknnaimabehaaDoor
namespace Go.Proofs.YtnnknnaimabehaaDoor
open Go.RowKit
set_option linter.unusedVariables false
/-- The correction that takes an interval back. -/
def backE (x : Ent) : Ent := ⟨4, x.meter, 0, -x.energy, x.band, 0, -x.cost, 0, 0, 0, List.replicate 32 0⟩
theorem backE_ok (x : Ent) (hx : x.ok) (h1 : okE x = true) : (backE x).ok := by
  obtain ⟨_, hm, hk, he, hc, _⟩ := okE_in x hx h1
  unfold amt at he hc
  refine ⟨rfl, hx.2.1, rfl, ?_, hx.2.2.2.2.1, rfl, ?_, rfl, rfl, rfl, rfl, fun y hy => ?_⟩
  · show IntKind.i64.wrap (-x.energy) = -x.energy; simp only [IntKind.wrap_i64]; omega
  · show IntKind.i64.wrap (-x.cost) = -x.cost; simp only [IntKind.wrap_i64]; omega
  · have := List.eq_of_mem_replicate hy; omega
theorem backE_may (x : Ent) (hx : x.ok) (h1 : okE x = true) : okE (backE x) = true := by
  rw [okE_may _ (backE_ok x hx h1)]
  obtain ⟨_, hm, hk, he, hc, _⟩ := okE_in x hx h1
  unfold amt at he hc
  unfold mayE backE
  simp
  omega
theorem sumP_fit (a b : Int) (h : amt (a + b)) : lsumP a b = (a + b, 0) := by
  unfold lsumP; unfold amt at h; rw [if_pos h]
/-- What an interval that is added makes. -/
theorem add_int {K : Int} {b : Bk} (hb : b.ok K) (x : Ent) (hx : x.ok) (hk : x.kind = 1) (h : (addP b x).2 = 0) :
    okE x = true ∧ (addP b x).1 = b.puts x.meter.toNat x.band.toNat ⟨(b.totAt x.meter.toNat x.band.toNat).energy + x.energy, (b.totAt x.meter.toNat x.band.toNat).cost + x.cost, (b.totAt x.meter.toNat x.band.toNat).many + 1⟩
      { b.sumAt x.meter.toNat with last := x, intervals := (b.sumAt x.meter.toNat).intervals + 1, flagged := (b.sumAt x.meter.toNat).flagged + min x.flags 1, energy := (b.sumAt x.meter.toNat).energy + x.energy, cost := (b.sumAt x.meter.toNat).cost + x.cost } (b.ofm.set x.meter.toNat (b.ofAt x.meter.toNat + 1)) (b.many + 1) := by
  have h0 : (nextP b x).2.2 = 0 := by
    unfold addP at h
    by_cases h1 : (nextP b x).2.2 = 0
    · exact h1
    · rw [if_pos h1] at h; exact h
  have he := nextP_e b x h0
  refine ⟨he, ?_⟩
  have hn : nextP b x = amountsP (b.totAt x.meter.toNat x.band.toNat) { b.sumAt x.meter.toNat with last := x, intervals := (b.sumAt x.meter.toNat).intervals + 1, flagged := (b.sumAt x.meter.toNat).flagged + min x.flags 1 } x := by
    unfold nextP
    rw [if_neg (by simp [he]), if_neg (by omega), if_neg (by omega), if_pos hk]
  unfold addP
  rw [if_neg (by simp [h0]), if_neg (by omega)]
  rw [hn] at h0 ⊢
  obtain ⟨e1, e2⟩ := amounts_zero _ _ _ h0
  rw [e1, e2]
  rfl
theorem add_back {K : Int} {b : Bk} (hb : b.ok K) (x : Ent) (hx : x.ok) (he : okE x = true)
    (h1 : amt ((b.totAt x.meter.toNat x.band.toNat).energy + -x.energy)) (h2 : amt ((b.totAt x.meter.toNat x.band.toNat).cost + -x.cost)) (h3 : amt ((b.sumAt x.meter.toNat).energy + -x.energy)) (h4 : amt ((b.sumAt x.meter.toNat).cost + -x.cost)) :
    addP b (backE x) = (b.puts x.meter.toNat x.band.toNat ⟨(b.totAt x.meter.toNat x.band.toNat).energy + -x.energy, (b.totAt x.meter.toNat x.band.toNat).cost + -x.cost, (b.totAt x.meter.toNat x.band.toNat).many + 1⟩
      { b.sumAt x.meter.toNat with corrected := (b.sumAt x.meter.toNat).corrected + 1, energy := (b.sumAt x.meter.toNat).energy + -x.energy, cost := (b.sumAt x.meter.toNat).cost + -x.cost } (b.ofm.set x.meter.toNat (b.ofAt x.meter.toNat + 1)) (b.many + 1), 0) := by
  have hm := backE_may x hx he
  have hn : nextP b (backE x) = (⟨(b.totAt x.meter.toNat x.band.toNat).energy + -x.energy, (b.totAt x.meter.toNat x.band.toNat).cost + -x.cost, (b.totAt x.meter.toNat x.band.toNat).many + 1⟩,
      { b.sumAt x.meter.toNat with corrected := (b.sumAt x.meter.toNat).corrected + 1, energy := (b.sumAt x.meter.toNat).energy + -x.energy, cost := (b.sumAt x.meter.toNat).cost + -x.cost }, 0) := by
    unfold nextP
    rw [if_neg (by simp [hm]), if_neg (by show ¬ ((4 : Int) = 2); decide), if_neg (by show ¬ ((4 : Int) = 3); decide), if_neg (by show ¬ ((4 : Int) = 1); decide), if_pos (by rfl)]
    unfold amountsP
    show ((⟨(lsumP _ (-x.energy)).1, (lsumP _ (-x.cost)).1, _⟩ : Tot), _, max4 (lsumP _ (-x.energy)).2 (lsumP _ (-x.cost)).2 (lsumP _ (-x.energy)).2 (lsumP _ (-x.cost)).2) = _
    dsimp only [backE]
    rw [sumP_fit _ _ h1, sumP_fit _ _ h2, sumP_fit _ _ h3, sumP_fit _ _ h4]
    rfl
  unfold addP
  rw [hn]
  rw [if_neg (by simp), if_neg (by show ¬ ((4 : Int) = 5); decide)]
  rfl
/-- The law. -/
theorem takes_plain {K : Int} (hK : 0 ≤ K) {b : Bk} (hb : b.ok K) (x : Ent) (hx : x.ok) (hk : x.kind = 1) (h : (addP b x).2 = 0) :
    okE x = true ∧ (addP (addP b x).1 (backE x)).2 = 0 ∧
    ((addP (addP b x).1 (backE x)).1.totI x.meter x.band).energy = (b.totI x.meter x.band).energy ∧ ((addP (addP b x).1 (backE x)).1.totI x.meter x.band).cost = (b.totI x.meter x.band).cost ∧ ((addP (addP b x).1 (backE x)).1.totI x.meter x.band).many = (b.totI x.meter x.band).many + 2 ∧
    ((addP (addP b x).1 (backE x)).1.sumI x.meter).energy = (b.sumI x.meter).energy ∧ ((addP (addP b x).1 (backE x)).1.sumI x.meter).cost = (b.sumI x.meter).cost ∧ ((addP (addP b x).1 (backE x)).1.sumI x.meter).intervals = (b.sumI x.meter).intervals + 1 ∧ ((addP (addP b x).1 (backE x)).1.sumI x.meter).corrected = (b.sumI x.meter).corrected + 1 ∧
    ((addP (addP b x).1 (backE x)).1.sumI x.meter).last = x := by
  obtain ⟨he, e1⟩ := add_int hb x hx hk h
  obtain ⟨_, hm, hkk, _⟩ := okE_in x hx he
  have hM : x.meter.toNat < 64 := by omega
  have hB : x.band.toNat < 8 := by omega
  have hb1 := addP_ok hK hb x hx
  rw [e1] at hb1 ⊢
  have ht := hb.totAt x.meter.toNat x.band.toNat hM hB
  have hs := hb.sumAt x.meter.toNat hM
  have t1 := fun t s o n => puts_tot hb x.meter.toNat x.band.toNat hM hB t s o n x.meter.toNat x.band.toNat hB
  have s1 := fun t s o n => puts_sum hb x.meter.toNat x.band.toNat hM t s o n x.meter.toNat
  simp only [and_self, if_true] at t1 s1
  obtain ⟨T, hT⟩ : ∃ T : Tot, T = ⟨(b.totAt x.meter.toNat x.band.toNat).energy + x.energy, (b.totAt x.meter.toNat x.band.toNat).cost + x.cost, (b.totAt x.meter.toNat x.band.toNat).many + 1⟩ := ⟨_, rfl⟩
  obtain ⟨S, hS⟩ : ∃ S : SumS, S = { b.sumAt x.meter.toNat with last := x, intervals := (b.sumAt x.meter.toNat).intervals + 1, flagged := (b.sumAt x.meter.toNat).flagged + min x.flags 1, energy := (b.sumAt x.meter.toNat).energy + x.energy, cost := (b.sumAt x.meter.toNat).cost + x.cost } := ⟨_, rfl⟩
  rw [← hT, ← hS] at hb1 ⊢
  clear e1
  have t2 := t1 T S (b.ofm.set x.meter.toNat (b.ofAt x.meter.toNat + 1)) (b.many + 1)
  have s2 := s1 T S (b.ofm.set x.meter.toNat (b.ofAt x.meter.toNat + 1)) (b.many + 1)
  generalize b.puts x.meter.toNat x.band.toNat T S (b.ofm.set x.meter.toNat (b.ofAt x.meter.toNat + 1)) (b.many + 1) = b' at hb1 t2 s2 ⊢
  rw [hT] at t2
  rw [hS] at s2
  have t3 := fun t s o n => puts_tot hb1 x.meter.toNat x.band.toNat hM hB t s o n x.meter.toNat x.band.toNat hB
  have s3 := fun t s o n => puts_sum hb1 x.meter.toNat x.band.toNat hM t s o n x.meter.toNat
  simp only [and_self, if_true] at t3 s3
  have a1 := ht.1
  have a2 := ht.2.1
  have a3 := hs.1
  have a4 := hs.2.1
  have e2 := add_back hb1 x hx he (by rw [t2]; dsimp only; unfold amt at *; omega) (by rw [t2]; dsimp only; unfold amt at *; omega) (by rw [s2]; dsimp only; unfold amt at *; omega) (by rw [s2]; dsimp only; unfold amt at *; omega)
  rw [e2]
  unfold Bk.totI Bk.sumI
  rw [if_pos ⟨hm, hkk⟩, if_pos hm, if_pos ⟨hm, hkk⟩, if_pos hm]
  dsimp only
  rw [t3, s3, t2, s2]
  dsimp only
  exact ⟨he, rfl, by omega, by omega, by omega, by omega, by omega, rfl, rfl, rfl⟩
end Go.Proofs.YtnnknnaimabehaaDoor
namespace Go.Proofs.YtnnknnaimabehaaDoor
open Go.RowKit
set_option linter.unusedVariables false
/-- Two books agree on a meter. -/
def Agree (m : Nat) (a o : Bk) : Prop := a.sumAt m = o.sumAt m ∧ ∀ k, k < 8 → a.totAt m k = o.totAt m k
theorem nextP_agree (x : Ent) (hx : x.ok) (a o : Bk) (h : Agree x.meter.toNat a o) : nextP a x = nextP o x := by
  unfold nextP
  by_cases he : okE x = false
  · rw [if_pos he, if_pos he]
  · have he' : okE x = true := by simpa using he
    obtain ⟨_, _, hb, _⟩ := okE_in x hx he'
    rw [h.1, h.2 _ (by omega)]
theorem addP_put (b : Bk) (x : Ent) : (addP b x).1 = (if (nextP b x).2.2 ≠ 0 then b else if x.kind = 5 then { b with many := b.many + 1, seals := b.seals + 1 } else b.puts x.meter.toNat x.band.toNat (nextP b x).1 (nextP b x).2.1 (b.ofm.set x.meter.toNat (b.ofAt x.meter.toNat + 1)) (b.many + 1)) := by
  unfold addP
  split
  · rfl
  · split <;> rfl
theorem Agree.own {K L : Int} {a o : Bk} (ha : a.ok K) (ho : o.ok L) (x : Ent) (hx : x.ok) (h : Agree x.meter.toNat a o) : Agree x.meter.toNat (addP a x).1 (addP o x).1 := by
  rw [addP_put a x, addP_put o x, nextP_agree x hx a o h]
  by_cases h1 : (nextP o x).2.2 ≠ 0
  · rw [if_pos h1, if_pos h1]; exact h
  · rw [if_neg h1, if_neg h1]
    obtain ⟨_, hm, hb, _⟩ := okE_in x hx (nextP_e o x (by omega))
    by_cases h5 : x.kind = 5
    · rw [if_pos h5, if_pos h5]; exact h
    · rw [if_neg h5, if_neg h5]
      refine ⟨?_, fun k hk => ?_⟩
      · rw [puts_sum ha _ _ (by omega), puts_sum ho _ _ (by omega), if_pos rfl, if_pos rfl]
      · rw [puts_tot ha _ _ (by omega) (by omega) _ _ _ _ _ k hk, puts_tot ho _ _ (by omega) (by omega) _ _ _ _ _ k hk, h.2 k hk]
theorem Agree.other {K : Int} {a o : Bk} (ha : a.ok K) (x : Ent) (hx : x.ok) (m : Nat) (hm' : (m : Int) ≠ x.meter ∨ x.kind = 5) (h : Agree m a o) : Agree m (addP a x).1 o := by
  rw [addP_put a x]
  by_cases h1 : (nextP a x).2.2 ≠ 0
  · rw [if_pos h1]; exact h
  · rw [if_neg h1]
    obtain ⟨_, hm, hb, _⟩ := okE_in x hx (nextP_e a x (by omega))
    by_cases h5 : x.kind = 5
    · rw [if_pos h5]; exact h
    · rw [if_neg h5]
      have hne : m ≠ x.meter.toNat := by
        rcases hm' with h | h
        · omega
        · exact absurd h h5
      refine ⟨?_, fun k hk => ?_⟩
      · rw [puts_sum ha _ _ (by omega), if_neg hne]; exact h.1
      · rw [puts_tot ha _ _ (by omega) (by omega) _ _ _ _ _ k hk, if_neg (by omega)]; exact h.2 k hk
/-- The entries of a meter, no seals. -/
def ownE (m : Int) (es : List Ent) : List Ent := es.filter fun e => decide (e.meter = m) && decide (e.kind ≠ 5)
theorem ownE_snoc (m : Int) (es : List Ent) (x : Ent) : ownE m (es ++ [x]) = ownE m es ++ (if x.meter = m ∧ x.kind ≠ 5 then [x] else []) := by
  unfold ownE
  rw [List.filter_append]
  by_cases h : x.meter = m ∧ x.kind ≠ 5
  · rw [if_pos h]; simp [h.1, h.2]
  · rw [if_neg h]
    simp
    exact fun h1 => Decidable.byContradiction fun h2 => h ⟨h1, h2⟩
theorem own_agree (m : Int) (h0 : 0 ≤ m) (es : List Ent) (hes : ∀ e ∈ es, e.ok) : ∀ n, n ≤ es.length → Agree m.toNat (runB (es.take n)) (runB (ownE m (es.take n))) := by
  intro n
  induction n with
  | zero => intro _; rw [List.take_zero]; exact ⟨rfl, fun _ _ => rfl⟩
  | succ n ih =>
    intro hn
    have hi := ih (by omega)
    have hx : es[n]? = some es[n] := List.getElem?_eq_getElem (by omega)
    have hxo : (es[n]).ok := hes _ (List.getElem_mem _)
    have ha := runB_ok (es.take n) (fun e he => hes e (List.mem_of_mem_take he))
    have ho := runB_ok (ownE m (es.take n)) (fun e he => hes e (List.mem_of_mem_take (List.mem_filter.1 he).1))
    rw [List.take_add_one, hx]
    show Agree m.toNat (runB (es.take n ++ [es[n]])) (runB (ownE m (es.take n ++ [es[n]])))
    rw [runB_snoc, ownE_snoc]
    by_cases h : es[n].meter = m ∧ es[n].kind ≠ 5
    · rw [if_pos h, runB_snoc]
      have hq := hi
      have key := Agree.own (x := es[n]) ha ho hxo
      rw [h.1] at key
      exact key hi
    · rw [if_neg h, List.append_nil]
      refine hi.other ha _ hxo _ ?_
      by_cases h1 : es[n].meter = m
      · exact .inr (Decidable.byContradiction fun h2 => h ⟨h1, h2⟩)
      · left; omega
end Go.Proofs.YtnnknnaimabehaaDoor
namespace Go.Proofs.YtnnknnaimabehaaDoor
open Go.RowKit Go.Shelf
attribute [local go_sem] Oper.semAt_some
set_option linter.unusedVariables false
set_option linter.unusedSimpArgs false
set_option maxRecDepth 100000

section
variable {P : Program} (w : World)
/-- An array's items compared, each by what its part is. -/
theorem items_of (d : Nat) (e : TypeId) (sz : Nat) (xs ys : Array Value) (fx fy : Nat → Value) (q : Nat → Bool) : ∀ is : List Nat,
    (∀ i ∈ is, (part e xs (i * sz)).run P w = .ok (fx i) w ∧ (part e ys (i * sz)).run P w = .ok (fy i) w ∧ (Op.equalIn d e (fx i) (fy i)).run P w = .ok (q i) w) →
    (Op.eqItems d e sz xs ys is).run P w = .ok (is.all q) w := by
  intro is
  induction is with
  | nil => intro _; simp [Op.eqItems]
  | cons i is ih =>
    intro h
    obtain ⟨h1, h2, h3⟩ := h i (by simp)
    simp only [Op.eqItems, Sem.run_bind, h1, h2, Result.andThen_ok, h3, List.all_cons]
    cases q i
    · simp
    · simpa using ih (fun j hj => h j (List.mem_cons_of_mem _ hj))
theorem arr_of (d : Nat) (t e : TypeId) (n sz : Nat) (i : TypeInfo) (hu : P.underlying t = some (.array n e)) (hi : P.info? e = some i) (hc : P.cellsOf e = sz) (xs ys : Array Value) (fx fy : Nat → Value) (q : Nat → Bool)
    (h : ∀ i, i < n → (part e xs (i * sz)).run P w = .ok (fx i) w ∧ (part e ys (i * sz)).run P w = .ok (fy i) w ∧ (Op.equalIn d e (fx i) (fy i)).run P w = .ok (q i) w) :
    (Op.equalIn (d + 1) t (.agg xs) (.agg ys)).run P w = .ok ((List.range n).all q) w := by
  rw [run_equalIn_array w d _ _ hu hi, hc, items_of w d e sz xs ys fx fy q _ (fun i hi => h i (List.mem_range.1 hi))]
theorem part_row (t : TypeId) (d : TypeDesc) (sz : Nat) (hu : P.underlying t = some d) (hd : d.isRow = true) (hi : (P.info? t).map (·.size) = some sz) (xs : Array Value) (o : Nat) : (part t xs o).run P w = .ok (.agg (xs.extract o (o + sz))) w := by
  have hagg : (isAgg t).run P w = .ok true w := by
    unfold isAgg
    rw [Sem.run_bind, run_underlying hu w]
    cases d <;> simp_all
  have hs : (sizeOf t).run P w = .ok sz w := by
    cases hq : P.info? t with
    | none => simp [hq] at hi
    | some i =>
      have : i.size = sz := by simpa [hq] using hi
      simp [sizeOf, typeInfo, hq, this, Sem.run_bind]
  simp [part, Sem.run_bind, hagg, hs]
end
theorem info_of {P : Program} {t : TypeId} (h : (P.info? t).isSome = true) : ∃ i, P.info? t = some i := Option.isSome_iff_exists.1 h
theorem tot_in (n : Nat) (a b : Tot) (w : World) : (Op.equalIn (n + 2) 56 (.agg a.arr) (.agg b.arr)).run Tryd.prog w = .ok (decide (a = b)) w := by
  rw [run_equalIn_struct w _ _ _ _ (by kernel_rfl) (by kernel_rfl)]
  have ei := fun (d : Nat) (x y : Int) (w : World) => run_equalIn_int (P := Tryd.prog) w d 3 .i64 .i64 x y Tryd.underlying3
  have ej := fun (d : Nat) (x y : Int) (w : World) => run_equalIn_int (P := Tryd.prog) w d 2 .i64 .i64 x y Tryd.underlying2
  have fin : decide (a = b) = (a.energy == b.energy && (a.cost == b.cost && a.many == b.many)) := by
    rw [Bool.eq_iff_iff]
    cases a; cases b
    simp
  rw [fin]
  simp only [Program.fieldsOf, Tryd.underlying56]
  have pI : ∀ (e : Tot) (i : Nat) (v : Value) (w : World), e.arr[i]? = some v → (part 3 e.arr i).run Tryd.prog w = .ok v w := fun e i v w h => by simp [part, isAgg, run_underlying Tryd.underlying3, h]
  have pJ : ∀ (e : Tot) (i : Nat) (v : Value) (w : World), e.arr[i]? = some v → (part 2 e.arr i).run Tryd.prog w = .ok v w := fun e i v w h => by simp [part, isAgg, run_underlying Tryd.underlying2, h]
  have x0 := fun (e : Tot) w => pJ e 0 _ w (show e.arr[0]? = some (.int .i64 e.energy) from rfl)
  have x1 := fun (e : Tot) w => pJ e 1 _ w (show e.arr[1]? = some (.int .i64 e.cost) from rfl)
  have x2 := fun (e : Tot) w => pI e 2 _ w (show e.arr[2]? = some (.int .i64 e.many) from rfl)
  cases h0 : a.energy == b.energy <;> cases h1 : a.cost == b.cost <;> cases h2 : a.many == b.many <;> simp [Op.eqFields, Sem.run_bind, ei, ej, x0, x1, x2, h0, h1, h2]
theorem sum_in (n : Nat) (a b : SumS) (ha : a.last.hash.length = 32) (hb : b.last.hash.length = 32) (w : World) : (Op.equalIn (n + 4) 65 (.agg a.arr) (.agg b.arr)).run Tryd.prog w = .ok (decide (a = b)) w := by
  rw [run_equalIn_struct w _ _ _ _ (by kernel_rfl) (by kernel_rfl)]
  have ei := fun (d : Nat) (x y : Int) (w : World) => run_equalIn_int (P := Tryd.prog) w d 3 .i64 .i64 x y Tryd.underlying3
  have ej := fun (d : Nat) (x y : Int) (w : World) => run_equalIn_int (P := Tryd.prog) w d 2 .i64 .i64 x y Tryd.underlying2
  have fin : decide (a = b) = (a.energy == b.energy && (a.cost == b.cost && (a.intervals == b.intervals && (a.flagged == b.flagged && (a.suspects == b.suspects && (a.replaced == b.replaced && (a.corrected == b.corrected && decide (a.last = b.last)))))))) := by
    rw [Bool.eq_iff_iff]
    cases a; cases b
    simp
  rw [fin]
  simp only [Program.fieldsOf, Tryd.underlying65]
  have pI : ∀ (e : SumS) (i : Nat) (v : Value) (w : World), e.arr[i]? = some v → (part 3 e.arr i).run Tryd.prog w = .ok v w := fun e i v w h => by simp [part, isAgg, run_underlying Tryd.underlying3, h]
  have pJ : ∀ (e : SumS) (i : Nat) (v : Value) (w : World), e.arr[i]? = some v → (part 2 e.arr i).run Tryd.prog w = .ok v w := fun e i v w h => by simp [part, isAgg, run_underlying Tryd.underlying2, h]
  have pE : ∀ (e : SumS) (w : World), e.last.hash.length = 32 → (part 63 e.arr 7).run Tryd.prog w = .ok (.agg e.last.arr) w := fun e w h => by
    rw [part_row w 63 _ 42 Tryd.underlying63 (by kernel_rfl) (by kernel_rfl)]
    have : e.arr.extract 7 (7 + 42) = e.last.arr := by
      have hl := Ent.cells_len e.last h
      simp only [SumS.arr, SumS.cells, Ent.arr, List.extract_toArray, List.extract_eq_take_drop, List.drop_succ_cons, List.drop_zero]
      rw [List.take_of_length_le (by omega)]
    rw [this]
  have x0 := fun (e : SumS) w => pJ e 0 _ w (show e.arr[0]? = some (.int .i64 e.energy) by simp [SumS.arr, SumS.cells])
  have x1 := fun (e : SumS) w => pJ e 1 _ w (show e.arr[1]? = some (.int .i64 e.cost) by simp [SumS.arr, SumS.cells])
  have x2 := fun (e : SumS) w => pI e 2 _ w (show e.arr[2]? = some (.int .i64 e.intervals) by simp [SumS.arr, SumS.cells])
  have x3 := fun (e : SumS) w => pI e 3 _ w (show e.arr[3]? = some (.int .i64 e.flagged) by simp [SumS.arr, SumS.cells])
  have x4 := fun (e : SumS) w => pI e 4 _ w (show e.arr[4]? = some (.int .i64 e.suspects) by simp [SumS.arr, SumS.cells])
  have x5 := fun (e : SumS) w => pI e 5 _ w (show e.arr[5]? = some (.int .i64 e.replaced) by simp [SumS.arr, SumS.cells])
  have x6 := fun (e : SumS) w => pI e 6 _ w (show e.arr[6]? = some (.int .i64 e.corrected) by simp [SumS.arr, SumS.cells])
  have xa := fun w => pE a w ha
  have xb := fun w => pE b w hb
  have en := fun w => ent_in w n a.last b.last ha hb
  clear pI pJ pE fin
  generalize hl : decide (a.last = b.last) = r7 at *
  generalize a.last.arr = LA at *
  generalize b.last.arr = LB at *
  have y0 := fun w => x0 b w
  have y1 := fun w => x1 b w
  have y2 := fun w => x2 b w
  have y3 := fun w => x3 b w
  have y4 := fun w => x4 b w
  have y5 := fun w => x5 b w
  have y6 := fun w => x6 b w
  replace x0 := fun w => x0 a w
  replace x1 := fun w => x1 a w
  replace x2 := fun w => x2 a w
  replace x3 := fun w => x3 a w
  replace x4 := fun w => x4 a w
  replace x5 := fun w => x5 a w
  replace x6 := fun w => x6 a w
  generalize a.arr = AA at *
  generalize b.arr = BB at *
  generalize hr0 : (a.energy == b.energy) = r0 at *
  generalize hr1 : (a.cost == b.cost) = r1 at *
  generalize hr2 : (a.intervals == b.intervals) = r2 at *
  generalize hr3 : (a.flagged == b.flagged) = r3 at *
  generalize hr4 : (a.suspects == b.suspects) = r4 at *
  generalize hr5 : (a.replaced == b.replaced) = r5 at *
  generalize hr6 : (a.corrected == b.corrected) = r6 at *
  cases r0
  · simp [Op.eqFields, Sem.run_bind, ei, ej, x0, y0, hr0]
  cases r1
  · simp [Op.eqFields, Sem.run_bind, ei, ej, x0, y0, hr0, x1, y1, hr1]
  cases r2
  · simp [Op.eqFields, Sem.run_bind, ei, ej, x0, y0, hr0, x1, y1, hr1, x2, y2, hr2]
  cases r3
  · simp [Op.eqFields, Sem.run_bind, ei, ej, x0, y0, hr0, x1, y1, hr1, x2, y2, hr2, x3, y3, hr3]
  cases r4
  · simp [Op.eqFields, Sem.run_bind, ei, ej, x0, y0, hr0, x1, y1, hr1, x2, y2, hr2, x3, y3, hr3, x4, y4, hr4]
  cases r5
  · simp [Op.eqFields, Sem.run_bind, ei, ej, x0, y0, hr0, x1, y1, hr1, x2, y2, hr2, x3, y3, hr3, x4, y4, hr4, x5, y5, hr5]
  cases r6
  · simp [Op.eqFields, Sem.run_bind, ei, ej, x0, y0, hr0, x1, y1, hr1, x2, y2, hr2, x3, y3, hr3, x4, y4, hr4, x5, y5, hr5, x6, y6, hr6]
  cases r7 <;> simp [Op.eqFields, Sem.run_bind, ei, ej, x0, y0, hr0, x1, y1, hr1, x2, y2, hr2, x3, y3, hr3, x4, y4, hr4, x5, y5, hr5, x6, y6, hr6, xa, xb, en]
theorem mid_take (A B C : List Value) (n m : Nat) (ha : A.length = n) (hb : B.length = m) : ((A ++ (B ++ C)).toArray).extract n (n + m) = B.toArray := by
  simp only [List.extract_toArray, List.extract_eq_take_drop]
  rw [List.drop_append_of_le_length (by omega), List.drop_of_length_le (by omega), List.nil_append, Nat.add_sub_cancel_left, List.take_append_of_le_length (by omega), List.take_of_length_le (by omega)]
theorem flat_at {α : Type} (c : α → List Value) (n : Nat) (l : List α) (i : Nat) (d : α) (hi : i < l.length) (hc : ∀ x ∈ l, (c x).length = n) : ((l.flatMap c).toArray).extract (i * n) (i * n + n) = (c (l.getD i d)).toArray := by
  obtain ⟨A, C, ha, hac⟩ := flat_part c n l i hi hc
  have e := hac (l.getD i d)
  rw [set_getD _ _ _ hi] at e
  rw [e]
  exact mid_take A _ C _ _ ha (hc _ (getD_mem _ _ _ hi))
theorem flat_row {α : Type} (c : α → List Value) (n : Nat) : ∀ (l : List α), (∀ x ∈ l, (c x).length = n) → ∀ (k m : Nat), k + m ≤ l.length → ((l.flatMap c).toArray).extract (k * n) (k * n + m * n) = (((l.drop k).take m).flatMap c).toArray := by
  intro l hc k m hkm
  have e : l.flatMap c = (l.take k).flatMap c ++ (((l.drop k).take m).flatMap c ++ ((l.drop k).drop m).flatMap c) := by
    rw [← List.flatMap_append, List.take_append_drop, ← List.flatMap_append, List.take_append_drop]
  rw [e]
  refine mid_take _ _ _ _ _ ?_ ?_
  · rw [flat_len c n _ (fun x hx => hc x (List.mem_of_mem_take hx)), List.length_take, Nat.min_eq_left (by omega)]
  · rw [flat_len c n _ (fun x hx => hc x (List.mem_of_mem_drop (List.mem_of_mem_take hx))), List.length_take, List.length_drop, Nat.min_eq_left (by omega)]
theorem getD_sub {α : Type} (l : List α) (k m j : Nat) (d : α) (h : j < m) : ((l.drop k).take m).getD j d = l.getD (k + j) d := by
  rw [List.getD_eq_getElem?_getD, List.getD_eq_getElem?_getD, List.getElem?_take, if_pos h, List.getElem?_drop]
theorem list_ext_getD {α : Type} [DecidableEq α] (a b : List α) (n : Nat) (d : α) (ha : a.length = n) (hb : b.length = n) : ((List.range n).all fun i => decide (a.getD i d = b.getD i d)) = decide (a = b) := by
  rw [Bool.eq_iff_iff]
  simp only [List.all_eq_true, List.mem_range, decide_eq_true_eq]
  constructor
  · intro h
    apply List.ext_getElem (by omega)
    intro i h1 h2
    have := h i (by omega)
    simpa [List.getD_eq_getElem?_getD, List.getElem?_eq_getElem h1, List.getElem?_eq_getElem h2] using this
  · rintro rfl i _
    rfl
theorem list_ext_rows (a b : List Tot) (ha : a.length = 512) (hb : b.length = 512) : ((List.range 64).all fun i => (List.range 8).all fun j => decide (a.getD (i * 8 + j) Tot.zero = b.getD (i * 8 + j) Tot.zero)) = decide (a = b) := by
  rw [← list_ext_getD a b 512 Tot.zero ha hb, Bool.eq_iff_iff]
  simp only [List.all_eq_true, List.mem_range, decide_eq_true_eq]
  constructor
  · intro h i hi
    have := h (i / 8) (by omega) (i % 8) (by omega)
    rwa [show i / 8 * 8 + i % 8 = i by omega] at this
  · intro h i hi j hj
    exact h _ (by omega)
theorem tots_in (m : Nat) (a b : List Tot) (ha : a.length = 512) (hb : b.length = 512) (w : World) :
    (Op.equalIn (m + 4) 58 (.agg (a.flatMap Tot.cells).toArray) (.agg (b.flatMap Tot.cells).toArray)).run Tryd.prog w = .ok (decide (a = b)) w := by
  obtain ⟨i8, hi8⟩ := info_of (P := Tryd.prog) (t := 57) (by kernel_rfl)
  obtain ⟨i32, hi32⟩ := info_of (P := Tryd.prog) (t := 56) (by kernel_rfl)
  rw [← list_ext_rows a b ha hb]
  refine arr_of w (m + 3) 58 57 64 24 i8 Tryd.underlying58 hi8 (by kernel_rfl) _ _ (fun i => .agg (((a.drop (i * 8)).take 8).flatMap Tot.cells).toArray) (fun i => .agg (((b.drop (i * 8)).take 8).flatMap Tot.cells).toArray) _ (fun i hi => ⟨?_, ?_, ?_⟩)
  · rw [part_row w 57 _ 24 Tryd.underlying57 (by kernel_rfl) (by kernel_rfl)]
    have := flat_row Tot.cells 3 a (fun _ _ => rfl) (i * 8) 8 (by omega)
    rw [show i * 8 * 3 = i * 24 by omega, show 8 * 3 = 24 by rfl] at this
    rw [this]
  · rw [part_row w 57 _ 24 Tryd.underlying57 (by kernel_rfl) (by kernel_rfl)]
    have := flat_row Tot.cells 3 b (fun _ _ => rfl) (i * 8) 8 (by omega)
    rw [show i * 8 * 3 = i * 24 by omega, show 8 * 3 = 24 by rfl] at this
    rw [this]
  · refine arr_of w (m + 2) 57 56 8 3 i32 Tryd.underlying57 hi32 (by kernel_rfl) _ _ (fun j => .agg (a.getD (i * 8 + j) Tot.zero).arr) (fun j => .agg (b.getD (i * 8 + j) Tot.zero).arr) _ (fun j hj => ⟨?_, ?_, ?_⟩)
    · rw [part_row w 56 _ 3 Tryd.underlying56 (by kernel_rfl) (by kernel_rfl)]
      have := flat_at Tot.cells 3 ((a.drop (i * 8)).take 8) j Tot.zero (by rw [List.length_take, List.length_drop]; omega) (fun _ _ => rfl)
      rw [getD_sub _ _ _ _ _ hj] at this
      rw [this]; rfl
    · rw [part_row w 56 _ 3 Tryd.underlying56 (by kernel_rfl) (by kernel_rfl)]
      have := flat_at Tot.cells 3 ((b.drop (i * 8)).take 8) j Tot.zero (by rw [List.length_take, List.length_drop]; omega) (fun _ _ => rfl)
      rw [getD_sub _ _ _ _ _ hj] at this
      rw [this]; rfl
    · exact tot_in m _ _ w
theorem sums_in (m : Nat) (a b : List SumS) (ha : a.length = 64) (hb : b.length = 64) (hha : ∀ s ∈ a, s.last.hash.length = 32) (hhb : ∀ s ∈ b, s.last.hash.length = 32) (w : World) :
    (Op.equalIn (m + 5) 66 (.agg (a.flatMap SumS.cells).toArray) (.agg (b.flatMap SumS.cells).toArray)).run Tryd.prog w = .ok (decide (a = b)) w := by
  obtain ⟨i36, hi36⟩ := info_of (P := Tryd.prog) (t := 65) (by kernel_rfl)
  rw [← list_ext_getD a b 64 SumS.zero ha hb]
  refine arr_of w (m + 4) 66 65 64 49 i36 Tryd.underlying66 hi36 (by kernel_rfl) _ _ (fun j => .agg (a.getD j SumS.zero).arr) (fun j => .agg (b.getD j SumS.zero).arr) _ (fun j hj => ⟨?_, ?_, ?_⟩)
  · rw [part_row w 65 _ 49 Tryd.underlying65 (by kernel_rfl) sum_size]
    rw [flat_at SumS.cells 49 a j SumS.zero (by omega) (fun x hx => SumS.cells_len x (hha x hx))]; rfl
  · rw [part_row w 65 _ 49 Tryd.underlying65 (by kernel_rfl) sum_size]
    rw [flat_at SumS.cells 49 b j SumS.zero (by omega) (fun x hx => SumS.cells_len x (hhb x hx))]; rfl
  · exact sum_in m _ _ (hha _ (getD_mem _ _ _ (by omega))) (hhb _ (getD_mem _ _ _ (by omega))) w
instance : DecidableEq Bk := fun a b => decidable_of_iff (a.tot = b.tot ∧ a.sums = b.sums ∧ a.ofm = b.ofm ∧ a.many = b.many ∧ a.seals = b.seals) (by cases a; cases b; simp)
theorem book_in (m : Nat) (K L : Int) (a b : Bk) (ha : a.ok K) (hb : b.ok L) (w : World) : (Op.equalIn (m + 6) 69 (.agg a.arr) (.agg b.arr)).run Tryd.prog w = .ok (decide (a = b)) w := by
  rw [run_equalIn_struct w _ _ _ _ (by kernel_rfl) (by kernel_rfl)]
  have ei := fun (d : Nat) (x y : Int) (w : World) => run_equalIn_int (P := Tryd.prog) w d 3 .i64 .i64 x y Tryd.underlying3
  have fin : decide (a = b) = (decide (a.tot = b.tot) && (decide (a.sums = b.sums) && (decide (a.ofm = b.ofm) && (a.many == b.many && a.seals == b.seals)))) := by
    rw [Bool.eq_iff_iff]
    cases a; cases b
    simp
  rw [fin]
  simp only [Program.fieldsOf, Tryd.underlying69]
  obtain ⟨iI, hiI⟩ := info_of (P := Tryd.prog) (t := 3) (by kernel_rfl)
  have pT : ∀ (K : Int) (c : Bk) (hc : c.ok K) (w : World), (part 58 c.arr 0).run Tryd.prog w = .ok (.agg (c.tot.flatMap Tot.cells).toArray) w := fun K c hc w => by
    rw [part_row w 58 _ 1536 Tryd.underlying58 (by kernel_rfl) (by kernel_rfl)]
    have := mid_take [] (c.tot.flatMap Tot.cells) (c.sums.flatMap SumS.cells ++ (c.ofm.map (Value.int .i64) ++ [Value.int .i64 c.many, .int .i64 c.seals])) 0 1536 rfl (by rw [flat_len Tot.cells 3 _ (fun _ _ => rfl), hc.tl])
    rw [List.nil_append] at this
    rw [show c.arr = (c.tot.flatMap Tot.cells ++ (c.sums.flatMap SumS.cells ++ (c.ofm.map (Value.int .i64) ++ [Value.int .i64 c.many, .int .i64 c.seals]))).toArray from rfl, this]
  have pS : ∀ (K : Int) (c : Bk) (hc : c.ok K) (w : World), (part 66 c.arr 1536).run Tryd.prog w = .ok (.agg (c.sums.flatMap SumS.cells).toArray) w := fun K c hc w => by
    rw [part_row w 66 _ 3136 Tryd.underlying66 (by kernel_rfl) (by kernel_rfl)]
    have := mid_take (c.tot.flatMap Tot.cells) (c.sums.flatMap SumS.cells) (c.ofm.map (Value.int .i64) ++ [Value.int .i64 c.many, .int .i64 c.seals]) 1536 3136 (by rw [flat_len Tot.cells 3 _ (fun _ _ => rfl), hc.tl]) (by rw [flat_len SumS.cells 49 _ (fun x hx => SumS.cells_len x (hc.s x hx).hash), hc.sl])
    rw [show c.arr = (c.tot.flatMap Tot.cells ++ (c.sums.flatMap SumS.cells ++ (c.ofm.map (Value.int .i64) ++ [Value.int .i64 c.many, .int .i64 c.seals]))).toArray from rfl, this]
  have pO : ∀ (K : Int) (c : Bk) (hc : c.ok K) (w : World), (part 67 c.arr 4672).run Tryd.prog w = .ok (.agg (c.ofm.map (Value.int .i64)).toArray) w := fun K c hc w => by
    rw [part_row w 67 _ 64 Tryd.underlying67 (by kernel_rfl) (by kernel_rfl)]
    have := mid_take (c.tot.flatMap Tot.cells ++ c.sums.flatMap SumS.cells) (c.ofm.map (Value.int .i64)) [Value.int .i64 c.many, .int .i64 c.seals] 4672 64 (Bk.head_len c hc) (by rw [List.length_map, hc.ol])
    rw [List.append_assoc] at this
    rw [show c.arr = (c.tot.flatMap Tot.cells ++ (c.sums.flatMap SumS.cells ++ (c.ofm.map (Value.int .i64) ++ [Value.int .i64 c.many, .int .i64 c.seals]))).toArray from rfl, this]
  have pM : ∀ (K : Int) (c : Bk) (hc : c.ok K) (w : World), (part 3 c.arr 4736).run Tryd.prog w = .ok (.int .i64 c.many) w := fun K c hc w => by simp [part, isAgg, run_underlying Tryd.underlying3, c.many_cell hc]
  have pL : ∀ (K : Int) (c : Bk) (hc : c.ok K) (w : World), (part 3 c.arr 4737).run Tryd.prog w = .ok (.int .i64 c.seals) w := fun K c hc w => by simp [part, isAgg, run_underlying Tryd.underlying3, c.seals_cell hc]
  have a1 := fun w => pT K a ha w
  have a2 := fun w => pS K a ha w
  have a3 := fun w => pO K a ha w
  have a4 := fun w => pM K a ha w
  have a5 := fun w => pL K a ha w
  have b1 := fun w => pT L b hb w
  have b2 := fun w => pS L b hb w
  have b3 := fun w => pO L b hb w
  have b4 := fun w => pM L b hb w
  have b5 := fun w => pL L b hb w
  have e1 := fun w => tots_in (m + 1) a.tot b.tot ha.tl hb.tl w
  have e2 := fun w => sums_in m a.sums b.sums ha.sl hb.sl (fun s hs => (ha.s s hs).hash) (fun s hs => (hb.s s hs).hash) w
  have e3 := fun w => arr_ints (P := Tryd.prog) w (m + 3) 67 3 64 iI .i64 .i64 Tryd.underlying67 hiI (by kernel_rfl) Tryd.underlying3 a.ofm b.ofm ha.ol hb.ol
  clear pT pS pO pM pL fin
  generalize (a.tot.flatMap Tot.cells).toArray = TA at *
  generalize (b.tot.flatMap Tot.cells).toArray = TB at *
  generalize (a.sums.flatMap SumS.cells).toArray = SA at *
  generalize (b.sums.flatMap SumS.cells).toArray = SB at *
  generalize (a.ofm.map (Value.int .i64)).toArray = OA at *
  generalize (b.ofm.map (Value.int .i64)).toArray = OB at *
  generalize a.arr = AA at *
  generalize b.arr = BB at *
  generalize decide (a.tot = b.tot) = r0 at *
  generalize decide (a.sums = b.sums) = r1 at *
  generalize decide (a.ofm = b.ofm) = r2 at *
  generalize hr3 : (a.many == b.many) = r3 at *
  generalize hr4 : (a.seals == b.seals) = r4 at *
  cases r0
  · simp [Op.eqFields, Sem.run_bind, a1, b1, e1]
  cases r1
  · simp [Op.eqFields, Sem.run_bind, a1, b1, e1, a2, b2, e2]
  cases r2
  · simp [Op.eqFields, Sem.run_bind, a1, b1, e1, a2, b2, e2, a3, b3, e3]
  cases r3
  · simp [Op.eqFields, Sem.run_bind, a1, b1, e1, a2, b2, e2, a3, b3, e3, ei, a4, b4, hr3]
  cases r4 <;> simp [Op.eqFields, Sem.run_bind, a1, b1, e1, a2, b2, e2, a3, b3, e3, ei, a4, b4, hr3, a5, b5, hr4]
end Go.Proofs.YtnnknnaimabehaaDoor
namespace Go.Proofs.YtnnknnaimabehaaDoor
open Go.RowKit Go.Shelf
attribute [local go_sem] Oper.semAt_some
set_option linter.unusedVariables false
set_option linter.unusedSimpArgs false
set_option maxRecDepth 100000
theorem sum_eql (a b : SumS) (ha : a.last.hash.length = 32) (hb : b.last.hash.length = 32) (w : World) : (binOp .eql 65 (.agg a.arr) (.agg b.arr)).run Tryd.prog w = .ok (.bool (decide (a = b))) w := by
  rw [run_eql_struct, sum_in 9996 a b ha hb]; rfl
theorem sum_guard (w : World) (x y : Operand) (xs ys : Array Value) : (eqGuard .eql 65 x y (.agg xs) (.agg ys)).run Tryd.prog w = .ok () w := run_eqGuard_agg w .eql 65 x y xs ys (by kernel_rfl)
theorem ent_eql' (a b : Ent) (ha : a.hash.length = 32) (hb : b.hash.length = 32) (w : World) : (binOp .eql 63 (.agg a.arr) (.agg b.arr)).run Tryd.prog w = .ok (.bool (decide (a = b))) w := by
  rw [run_eql_struct, ent_in w 9997 a b ha hb]; rfl
theorem sumI_ok {K : Int} {b : Bk} (hb : b.ok K) (hK : 0 ≤ K) (m : Int) : (b.sumI m).ok K := by
  unfold Bk.sumI
  split
  · exact hb.sumAt _ (by omega)
  · exact SumS.zero_ok K hK
theorem totI_ok {K : Int} {b : Bk} (hb : b.ok K) (hK : 0 ≤ K) (m k : Int) : (b.totI m k).ok K := by
  unfold Bk.totI
  split
  · exact hb.totAt _ _ (by omega) (by omega)
  · exact Tot.zero_ok K hK
theorem addP_err (b : Bk) (x : Ent) (h : (addP b x).2 ≠ 0) : (addP b x).1 = b := by
  unfold addP at h ⊢
  by_cases h1 : (nextP b x).2.2 ≠ 0
  · rw [if_pos h1]
  · rw [if_neg h1] at h
    split at h <;> exact absurd rfl h
end Go.Proofs.YtnnknnaimabehaaDoor
namespace Go.Proofs.YtnnknnaimabehaaDoor
open Go.RowKit
set_option linter.unusedVariables false

def addsB (x : Ent) : Bool := decide (x.kind = 1) || decide (x.kind = 4)
def totJ (t : Tot) (x : Ent) (m k : Int) : Tot := if addsB x = true ∧ x.meter = m ∧ x.band = k then ⟨t.energy + x.energy, t.cost + x.cost, t.many + 1⟩ else t
def kindJ (s : SumS) (x : Ent) : SumS :=
  if x.kind = 1 then { s with intervals := s.intervals + 1, last := x, flagged := if 0 < x.flags then s.flagged + 1 else s.flagged }
  else if x.kind = 2 then { s with suspects := s.suspects + 1 }
  else if x.kind = 3 then { s with replaced := s.replaced + 1 }
  else if x.kind = 4 then { s with corrected := s.corrected + 1 } else s
def sumJ (s : SumS) (x : Ent) (m : Int) : SumS := if x.kind = 5 ∨ x.meter ≠ m then s else kindJ { s with energy := s.energy + x.energy, cost := s.cost + x.cost } x
def beyB (n : Int) : Bool := decide (4611686018427387904 < n) || decide (n < -4611686018427387904)
/-- What May of the document answers. -/
def mayR (b : Bk) (x : Ent) : Int :=
  if mayE x = false then 150 else if addsB x = false then 0
  else if (beyB (IntKind.i64.wrap ((b.totI x.meter x.band).energy + x.energy)) || beyB (IntKind.i64.wrap ((b.totI x.meter x.band).cost + x.cost)) || beyB (IntKind.i64.wrap ((b.sumI x.meter).energy + x.energy)) || beyB (IntKind.i64.wrap ((b.sumI x.meter).cost + x.cost))) = true then 10 else 0

theorem addP_two (b : Bk) (x : Ent) : (addP b x).2 = (nextP b x).2.2 := by
  unfold addP
  by_cases h1 : (nextP b x).2.2 ≠ 0
  · rw [if_pos h1]
  · have : (nextP b x).2.2 = 0 := by omega
    rw [if_neg h1, this]
    split <;> rfl
theorem zeroish (x : Ent) (hx : x.ok) (h : okE x = true) (hk : x.kind = 2 ∨ x.kind = 3) : x.energy = 0 ∧ x.cost = 0 := by
  rw [okE_may x hx] at h
  unfold mayE at h
  rcases hk with hk | hk
  · simp [hk] at h; omega
  · simp [hk] at h; omega
theorem nextP_tot (b : Bk) (x : Ent) (h : (nextP b x).2.2 = 0) : (nextP b x).1 = if addsB x = true then ⟨(b.totAt x.meter.toNat x.band.toNat).energy + x.energy, (b.totAt x.meter.toNat x.band.toNat).cost + x.cost, (b.totAt x.meter.toNat x.band.toNat).many + 1⟩ else b.totAt x.meter.toNat x.band.toNat := by
  have he := nextP_e b x h
  unfold nextP at h ⊢
  rw [if_neg (by simp [he])] at h ⊢
  by_cases h2 : x.kind = 2
  · rw [if_pos h2, if_neg (by simp [addsB, h2])]
  rw [if_neg h2] at h ⊢
  by_cases h3 : x.kind = 3
  · rw [if_pos h3, if_neg (by simp [addsB, h3])]
  rw [if_neg h3] at h ⊢
  by_cases h1 : x.kind = 1
  · rw [if_pos h1] at h ⊢
    rw [if_pos (by simp [addsB, h1])]
    exact (amounts_zero _ _ _ h).1
  rw [if_neg h1] at h ⊢
  by_cases h4 : x.kind = 4
  · rw [if_pos h4] at h ⊢
    rw [if_pos (by simp [addsB, h4])]
    exact (amounts_zero _ _ _ h).1
  · rw [if_neg h4, if_neg (by simp [addsB, h1, h4])]
theorem nextP_sum (b : Bk) (x : Ent) (hx : x.ok) (h : (nextP b x).2.2 = 0) (h5 : x.kind ≠ 5) : (nextP b x).2.1 = kindJ { b.sumAt x.meter.toNat with energy := (b.sumAt x.meter.toNat).energy + x.energy, cost := (b.sumAt x.meter.toNat).cost + x.cost } x := by
  have he := nextP_e b x h
  obtain ⟨hk, _, _, _, _, hfl⟩ := okE_in x hx he
  unfold nextP at h ⊢
  unfold kindJ
  rw [if_neg (by simp [he])] at h ⊢
  by_cases h2 : x.kind = 2
  · obtain ⟨z1, z2⟩ := zeroish x hx he (.inl h2)
    rw [if_pos h2, if_neg (by omega), if_pos h2, z1, z2]; simp
  rw [if_neg h2] at h ⊢
  by_cases h3 : x.kind = 3
  · obtain ⟨z1, z2⟩ := zeroish x hx he (.inr h3)
    rw [if_pos h3, if_neg (by omega), if_neg h2, if_pos h3, z1, z2]; simp
  rw [if_neg h3] at h ⊢
  by_cases h1 : x.kind = 1
  · rw [if_pos h1] at h ⊢
    rw [if_pos h1, (amounts_zero _ _ _ h).2]
    by_cases hf : 0 < x.flags
    · rw [if_pos hf, show min x.flags 1 = 1 by omega]
    · rw [if_neg hf, show min x.flags 1 = 0 by omega, Int.add_zero]
  rw [if_neg h1] at h ⊢
  by_cases h4 : x.kind = 4
  · rw [if_pos h4] at h ⊢
    rw [if_neg h1, if_neg h2, if_neg h3, if_pos h4, (amounts_zero _ _ _ h).2]
  · omega
theorem step_tot {K : Int} {b : Bk} (hb : b.ok K) (x : Ent) (hx : x.ok) (h : (addP b x).2 = 0) (m k : Int) : (addP b x).1.totI m k = totJ (b.totI m k) x m k := by
  rw [addP_two] at h
  have he := nextP_e b x h
  obtain ⟨_, hm, hb', _⟩ := okE_in x hx he
  rw [addP_put, if_neg (by simp [h])]
  unfold totJ Bk.totI
  by_cases hr : (0 ≤ m ∧ m ≤ 63) ∧ 0 ≤ k ∧ k ≤ 7
  · rw [if_pos hr, if_pos hr]
    by_cases h5 : x.kind = 5
    · rw [if_pos h5, if_neg (by simp [addsB, h5])]; rfl
    · rw [if_neg h5, puts_tot hb _ _ (by omega) (by omega) _ _ _ _ _ _ (by omega), nextP_tot b x h]
      by_cases hq : m.toNat = x.meter.toNat ∧ k.toNat = x.band.toNat
      · rw [if_pos hq, hq.1, hq.2]
        by_cases ha : addsB x = true
        · rw [if_pos ha, if_pos ⟨ha, by omega, by omega⟩]
        · rw [if_neg ha, if_neg (fun q => ha q.1)]
      · rw [if_neg hq, if_neg (fun q => hq ⟨by omega, by omega⟩)]
  · rw [if_neg hr, if_neg hr, if_neg (fun q => hr (by omega))]
theorem step_sum {K : Int} {b : Bk} (hb : b.ok K) (x : Ent) (hx : x.ok) (h : (addP b x).2 = 0) (m : Int) : (addP b x).1.sumI m = sumJ (b.sumI m) x m := by
  rw [addP_two] at h
  have he := nextP_e b x h
  obtain ⟨_, hm, hb', _⟩ := okE_in x hx he
  rw [addP_put, if_neg (by simp [h])]
  unfold sumJ Bk.sumI
  by_cases hr : 0 ≤ m ∧ m ≤ 63
  · rw [if_pos hr, if_pos hr]
    by_cases h5 : x.kind = 5
    · rw [if_pos h5, if_pos (.inl h5)]; rfl
    · rw [if_neg h5, puts_sum hb _ _ (by omega), nextP_sum b x hx h h5]
      by_cases hq : m.toNat = x.meter.toNat
      · rw [if_pos hq, hq, if_neg (by omega)]
      · rw [if_neg hq, if_pos (by omega)]
  · rw [if_neg hr, if_neg hr, if_pos (by omega)]
theorem step_of {K : Int} {b : Bk} (hb : b.ok K) (x : Ent) (hx : x.ok) (h : (addP b x).2 = 0) (m : Nat) (hm : m < 64) : (addP b x).1.ofAt m = b.ofAt m + (if x.kind ≠ 5 ∧ x.meter = m then 1 else 0) := by
  rw [addP_two] at h
  have he := nextP_e b x h
  obtain ⟨_, hm', _⟩ := okE_in x hx he
  rw [addP_put, if_neg (by simp [h])]
  by_cases h5 : x.kind = 5
  · rw [if_pos h5, if_neg (fun q => q.1 h5)]; show b.ofAt m = _; omega
  · rw [if_neg h5]
    show ((b.ofm.set x.meter.toNat (b.ofAt x.meter.toNat + 1)).getD m 0) = _
    rw [getD_set _ _ _ _ _ (by rw [hb.ol]; omega)]
    by_cases hq : m = x.meter.toNat
    · rw [if_pos hq, if_pos ⟨h5, by omega⟩, ← hq]
    · rw [if_neg hq, if_neg (fun q => hq (by omega))]; show b.ofAt m = _; omega
theorem bey_sum (a c : Int) (ha : amt a) (hc : amt c) : beyB (IntKind.i64.wrap (a + c)) = decide ((lsumP a c).2 = 10) ∧ ((lsumP a c).2 = 0 ∨ (lsumP a c).2 = 10) := by
  unfold amt at ha hc
  unfold lsumP beyB
  by_cases h : -4611686018427387904 ≤ a + c ∧ a + c ≤ 4611686018427387904
  · rw [if_pos h]
    refine ⟨?_, .inl rfl⟩
    have e : IntKind.i64.wrap (a + c) = a + c := by simp only [IntKind.wrap_i64]; omega
    rw [e]
    simp; omega
  · rw [if_neg h]
    refine ⟨?_, .inr rfl⟩
    have : 4611686018427387904 < IntKind.i64.wrap (a + c) ∨ IntKind.i64.wrap (a + c) < -4611686018427387904 := by simp only [IntKind.wrap_i64]; omega
    simpa using this
theorem max4_zt (a b c d : Int) (ha : a = 0 ∨ a = 10) (hb : b = 0 ∨ b = 10) (hc : c = 0 ∨ c = 10) (hd : d = 0 ∨ d = 10) : max4 a b c d = if (decide (a = 10) || decide (b = 10) || decide (c = 10) || decide (d = 10)) = true then 10 else 0 := by
  rcases ha with rfl | rfl <;> rcases hb with rfl | rfl <;> rcases hc with rfl | rfl <;> rcases hd with rfl | rfl <;> decide
theorem mayR_eq {K : Int} {b : Bk} (hb : b.ok K) (x : Ent) (hx : x.ok) : mayR b x = (nextP b x).2.2 := by
  have hok := okE_may x hx
  unfold mayR nextP
  rw [← hok]
  by_cases he : okE x = false
  · rw [if_pos he, if_pos he]
  have he' : okE x = true := by simpa using he
  obtain ⟨hk, hm, hbd, hen, hco, _⟩ := okE_in x hx he'
  have ht : b.totI x.meter x.band = b.totAt x.meter.toNat x.band.toNat := by unfold Bk.totI; rw [if_pos ⟨hm, hbd⟩]
  have hs : b.sumI x.meter = b.sumAt x.meter.toNat := by unfold Bk.sumI; rw [if_pos hm]
  have hto := hb.totAt x.meter.toNat x.band.toNat (by omega) (by omega)
  have hso := hb.sumAt x.meter.toNat (by omega)
  rw [if_neg he, if_neg he, ht, hs]
  generalize b.totAt x.meter.toNat x.band.toNat = t at hto ⊢
  generalize b.sumAt x.meter.toNat = s at hso ⊢
  obtain ⟨t1, t2, _⟩ := hto
  obtain ⟨s1, s2, _⟩ := hso
  obtain ⟨e1, z1⟩ := bey_sum t.energy x.energy t1 hen
  obtain ⟨e2, z2⟩ := bey_sum t.cost x.cost t2 hco
  obtain ⟨e3, z3⟩ := bey_sum s.energy x.energy s1 hen
  obtain ⟨e4, z4⟩ := bey_sum s.cost x.cost s2 hco
  rw [e1, e2, e3, e4]
  by_cases h2 : x.kind = 2
  · rw [if_pos h2, if_pos (by simp [addsB, h2])]
  by_cases h3 : x.kind = 3
  · rw [if_neg h2, if_pos h3, if_pos (by simp [addsB, h3])]
  by_cases h1 : x.kind = 1
  · rw [if_neg h2, if_neg h3, if_pos h1, if_neg (by simp [addsB, h1])]
    exact (max4_zt _ _ _ _ z1 z2 z3 z4).symm
  by_cases h4 : x.kind = 4
  · rw [if_neg h2, if_neg h3, if_neg h1, if_pos h4, if_neg (by simp [addsB, h4])]
    exact (max4_zt _ _ _ _ z1 z2 z3 z4).symm
  · rw [if_neg h2, if_neg h3, if_neg h1, if_neg h4, if_pos (by simp [addsB, h1, h4])]

/-- Entries that were added, each of them. -/
def AddedE (es : List Ent) : Prop := (∀ e ∈ es, e.ok) ∧ ∀ (j : Nat) (x : Ent), es[j]? = some x → (addP (runB (es.take j)) x).2 = 0
theorem AddedE.book {es : List Ent} (h : AddedE es) (i : Nat) (hi : i ≤ es.length) : (runB (es.take i)).ok i := runB_ok_take es h.1 i hi
theorem AddedE.tot {es : List Ent} (h : AddedE es) (i : Nat) (x : Ent) (hx : es[i]? = some x) (m k : Int) : (runB (es.take (i + 1))).totI m k = totJ ((runB (es.take i)).totI m k) x m k := by
  have hi := (List.getElem?_eq_some_iff.1 hx).1
  rw [runB_take es i x hx]
  exact step_tot (h.book i (by omega)) x (h.1 x (List.mem_of_getElem? hx)) (h.2 i x hx) m k
theorem AddedE.sum {es : List Ent} (h : AddedE es) (i : Nat) (x : Ent) (hx : es[i]? = some x) (m : Int) : (runB (es.take (i + 1))).sumI m = sumJ ((runB (es.take i)).sumI m) x m := by
  have hi := (List.getElem?_eq_some_iff.1 hx).1
  rw [runB_take es i x hx]
  exact step_sum (h.book i (by omega)) x (h.1 x (List.mem_of_getElem? hx)) (h.2 i x hx) m
theorem AddedE.ofm {es : List Ent} (h : AddedE es) (i : Nat) (x : Ent) (hx : es[i]? = some x) (m : Nat) (hm : m < 64) : (runB (es.take (i + 1))).ofAt m = (runB (es.take i)).ofAt m + (if x.kind ≠ 5 ∧ x.meter = m then 1 else 0) := by
  have hi := (List.getElem?_eq_some_iff.1 hx).1
  rw [runB_take es i x hx]
  exact step_of (h.book i (by omega)) x (h.1 x (List.mem_of_getElem? hx)) (h.2 i x hx) m hm
theorem AddedE.nil : AddedE [] := ⟨fun e h => absurd h (by simp), fun j x h => absurd h (by simp)⟩
theorem AddedE.snoc {es : List Ent} (h : AddedE es) (x : Ent) (hx : x.ok) (h0 : (addP (runB es) x).2 = 0) : AddedE (es ++ [x]) := by
  refine ⟨fun e he => ?_, fun j y hy => ?_⟩
  · rcases List.mem_append.1 he with h1 | h1
    · exact h.1 e h1
    · rw [List.mem_singleton.1 h1]; exact hx
  · rcases Nat.lt_or_ge j es.length with hj | hj
    · rw [List.getElem?_append_left hj] at hy
      rw [List.take_append_of_le_length (by omega)]
      exact h.2 j y hy
    · rw [List.getElem?_append_right hj] at hy
      have hj2 := (List.getElem?_eq_some_iff.1 hy).1
      simp at hj2
      obtain rfl : j = es.length := by omega
      simp at hy
      subst hy
      rw [List.take_left']
      · exact h0
      · rfl
/-- The entries of a list that a book takes, one behind the other. -/
def takenE (es : List Ent) : List Ent := es.foldl (fun acc x => if (addP (runB acc) x).2 = 0 then acc ++ [x] else acc) []
theorem takenE_snoc (es : List Ent) (x : Ent) : takenE (es ++ [x]) = if (addP (runB (takenE es)) x).2 = 0 then takenE es ++ [x] else takenE es := by
  unfold takenE
  rw [List.foldl_append]; rfl
theorem taken_added (es : List Ent) (hes : ∀ e ∈ es, e.ok) : ∀ n, n ≤ es.length → AddedE (takenE (es.take n)) ∧ runB (takenE (es.take n)) = runB (es.take n) ∧ (takenE (es.take n)).length ≤ n ∧ (runB (es.take n)).many = (takenE (es.take n)).length := by
  intro n
  induction n with
  | zero => intro _; rw [List.take_zero]; exact ⟨AddedE.nil, rfl, Nat.le_refl _, rfl⟩
  | succ n ih =>
    intro hn
    obtain ⟨h1, h2, h3, h4⟩ := ih (by omega)
    have hx : es[n]? = some es[n] := List.getElem?_eq_getElem (by omega)
    have hxo : (es[n]).ok := hes _ (List.getElem_mem _)
    have e1 : es.take (n + 1) = es.take n ++ [es[n]] := by rw [List.take_add_one, hx]; rfl
    rw [e1, takenE_snoc, runB_snoc]
    by_cases h0 : (addP (runB (takenE (es.take n))) es[n]).2 = 0
    · rw [if_pos h0, runB_snoc, h2]
      refine ⟨h1.snoc _ hxo h0, rfl, by rw [List.length_append]; simp; omega, ?_⟩
      rw [h2] at h0
      rw [addP_two] at h0
      rw [addP_put, if_neg (by simp [h0])]
      rw [List.length_append]
      split
      · show (runB (es.take n)).many + 1 = _; rw [h4]; simp
      · show (runB (es.take n)).many + 1 = _; rw [h4]; simp
    · rw [if_neg h0, h2]
      rw [h2, addP_two] at h0
      have e2 : (addP (runB (es.take n)) es[n]).1 = runB (es.take n) := by rw [addP_put, if_pos h0]
      rw [e2]
      exact ⟨h1, rfl, by omega, h4⟩
end Go.Proofs.YtnnknnaimabehaaDoor
namespace Go.Proofs.YtnnknnaimabehaaDoor
open Go.RowKit
attribute [local go_sem] Oper.semAt_some
set_option linter.unusedVariables false
set_option linter.unusedSimpArgs false
set_option maxRecDepth 100000
theorem adds_any (x : Ent) (w : World) : Calls Tryd.prog 33 #[.agg x.arr] w fun e w' => e = .returned (.bool (addsB x)) ∧ Below w.heap.size w w' := by
  obtain ⟨X, hX⟩ : ∃ X, x.arr = X := ⟨_, rfl⟩
  rw [hX]
  have HX := Lib.hid hX
  clear hX
  go_in
  go_upto_region 1 with (fail)
  have hX0 : Held (w.alloc (.cells X 63)) w.heap.size 63 X := Held.new w _ _
  have hb0 : Below w.heap.size w (w.alloc (.cells X 63)) := (Below.refl _ _).alloc (Nat.le_refl _) _
  generalize w.alloc (.cells X 63) = W1 at hX0 hb0 ⊢
  obtain ⟨xk, _⟩ := ent_cells (e := x) (by rw [HX.out]; exact hX0)
  by_cases h1 : x.kind = 1
  · have HV : Hid (addsB x = true) := Lib.hid (by simp [addsB, h1])
    rw [h1] at xk
    go_wp2_with fail
    go_ret
    exact ⟨by rw [HV.out]; rfl, hb0⟩
  · by_cases h4 : x.kind = 4
    · have HV : Hid (addsB x = true) := Lib.hid (by simp [addsB, h4])
      rw [h4] at xk
      go_wp2_with fail
      go_ret
      exact ⟨by rw [HV.out]; rfl, hb0⟩
    · have HV : Hid (addsB x = false) := Lib.hid (by simp [addsB, h1, h4])
      have b1 : (x.kind == 1) = false := by simp [h1]
      have b4 : (x.kind == 4) = false := by simp [h4]
      go_wp2_with fail
      go_ret
      exact ⟨by rw [HV.out]; rfl, hb0⟩
def Z32 : Array Value := ((List.replicate 32 (0 : Int)).map (Value.int .u8)).toArray
theorem alloc_hash (w : World) : (Instr.alloc 61 true (.tuple #[])).run Tryd.prog w = .ok (.pointer (some ⟨w.heap.size, 0, none⟩)) (w.alloc (.cells Z32 61)) := by kernel_rfl
theorem build_hash (w : World) : (Instr.build 61 #[]).run Tryd.prog w = .ok (.agg Z32) w := by kernel_rfl
end Go.Proofs.YtnnknnaimabehaaDoor
