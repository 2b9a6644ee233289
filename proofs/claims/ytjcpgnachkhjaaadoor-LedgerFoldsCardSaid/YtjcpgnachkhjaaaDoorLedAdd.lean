/- ledger.Add, May, Len, Seals. -/
import Derived.Test.YtjcpgnachkhjaaaDoorLedNext
import Derived.Test.YtjcpgnachkhjaaaDoorLedBookP
namespace Go.Proofs.YtjcpgnachkhjaaaDoor
open Go.RowKit Go.Shelf
attribute [local go_sem] Oper.semAt_some
set_option linter.unusedVariables false
set_option linter.unusedSimpArgs false
set_option maxRecDepth 100000

theorem But.drew {g : Nat} {A B : World} (h : But g A B) : But g A B.drew := ⟨h.1.drew, h.2⟩
/-- What Add tells, and does. -/
def AddPost (b : Bk) (x : Ent) (gb : Nat) (w : World) (e : Ending) (w' : World) : Prop := e = .returned (.int .i64 (addP b x).2) ∧ Held w' gb 40 (addP b x).1.arr ∧ But gb w w'
theorem len_any (K : Int) (b : Bk) (hb : b.ok K) (gb : Nat) (w : World) (hB : Held w gb 40 b.arr) : Calls Tryd.prog 13 #[.pointer (some ⟨gb, 0, none⟩)] w fun e w' => e = .returned (.int .i64 b.many) ∧ w' = w := by
  have hc : w.cell? ⟨gb, 4736, none⟩ = some (.int .i64 b.many) := (hB.cell 4736).trans (b.many_cell hb)
  clear hB
  go_in
  go_wp2
  go_ret
  exact ⟨rfl, rfl⟩
theorem seals_any (K : Int) (b : Bk) (hb : b.ok K) (gb : Nat) (w : World) (hB : Held w gb 40 b.arr) : Calls Tryd.prog 12 #[.pointer (some ⟨gb, 0, none⟩)] w fun e w' => e = .returned (.int .i64 b.seals) ∧ w' = w := by
  have hc : w.cell? ⟨gb, 4737, none⟩ = some (.int .i64 b.seals) := (hB.cell 4737).trans (b.seals_cell hb)
  clear hB
  go_in
  go_wp2
  go_ret
  exact ⟨rfl, rfl⟩
set_option maxHeartbeats 4000000 in
theorem bmay_any (K : Int) (h0 : 0 ≤ K) (hK : K < 4611686018427387903) (b : Bk) (hb : b.ok K) (x : Ent) (hx : x.ok) (gb : Nat) (w : World) (hB : Held w gb 40 b.arr) (hT : WordsT w) :
    Calls Tryd.prog 17 #[.pointer (some ⟨gb, 0, none⟩), .agg x.arr] w (fun e w' => e = .returned (.int .i64 (nextP b x).2.2) ∧ Below w.heap.size w w') := by
  obtain ⟨X, hX⟩ : ∃ X, x.arr = X := ⟨_, rfl⟩
  have hlen := hx.2.2.2.2.2.2.2.2.2.2.1
  rw [hX]
  have HX := Lib.hid hX
  clear hX
  have hgl := hB.lt
  have hnl := (nextP_ok (K := K) h0 hb x hx).2.hash
  go_in
  go_upto_region 3 with (fail)
  have hX0 : Held (w.alloc (.cells X 28)) w.heap.size 28 X := Held.new w _ _
  have hB0 := hB.alloc (.cells X 28)
  have hb0 : Below w.heap.size w (w.alloc (.cells X 28)) := (Below.refl _ _).alloc (Nat.le_refl _) _
  generalize w.alloc (.cells X 28) = W1 at hX0 hB0 hb0 ⊢
  have HC : Hid (Calls Tryd.prog 26 #[.pointer (some ⟨gb, 0, none⟩), .agg X] W1 fun e w' => e = .returned (.tuple #[.agg (nextP b x).1.arr, .agg (nextP b x).2.1.arr, .int .i64 (nextP b x).2.2]) ∧ Below W1.heap.size W1 w') := Lib.hid (by rw [← HX.out]; exact next_any K hK b hb x hx gb W1 hB0 (hT.up hb0))
  have IX : Hid ((Tryd.prog.info? 28).map (·.size) = some X.size) := Lib.hid (by rw [ent_size x hlen, HX.out])
  obtain ⟨T, hTe⟩ : ∃ T, (nextP b x).1 = T := ⟨_, rfl⟩
  obtain ⟨S, hSe⟩ : ∃ S, (nextP b x).2.1 = S := ⟨_, rfl⟩
  obtain ⟨E, hEe⟩ : ∃ E, (nextP b x).2.2 = E := ⟨_, rfl⟩
  rw [hTe, hSe, hEe] at HC
  rw [hSe] at hnl
  have hsl : S.arr.size = 49 := SumS.arr_size _ hnl
  have ISs : Hid ((Tryd.prog.info? 36).map (·.size) = some S.arr.size) := Lib.hid (by rw [sum_size, hsl])
  have ITs : Hid ((Tryd.prog.info? 32).map (·.size) = some T.arr.size) := Lib.hid tot_size
  have IZ : Hid (S.arr.size = SumS.zero.arr.size) := Lib.hid (by rw [hsl, SumS.arr_size _ rfl])
  have HTE := Lib.hid hTe
  have HSE := Lib.hid hSe
  have HEE := Lib.hid hEe
  clear hTe hSe hEe
  go_upto_region 4 with (first
    | ((with_reducible refine wpList_load_held (dst := some 12) 28 (.tmp 3) w.heap.size 28 X _ (by kernel_rfl) (by kernel_rfl) hX0 Tryd.underlying28 (by kernel_rfl) IX.out ?_); simp only [Act.put, List.setIfInBounds_toArray, List.set_cons_succ, List.set_cons_zero])
    | (go_at_call 26; refine HC.out.mono ?_; rintro e V0 ⟨rfl, hbV⟩; have hX1 := hX0.below hbV hX0.lt; have hB1 := hB0.below hbV hB0.lt; have hb1 := hb0.trans (hbV.mono hb0.size))
    | ((with_reducible refine wpList_alloc_held (dst := some 5) 32 Tot.zero.arr (by kernel_rfl) alloc_tot ?_); intro V1 h5 b5 z5; have l5 : V0.heap.size < V1.heap.size := (by omega); clear z5; simp only [Act.put, List.setIfInBounds_toArray, List.set_cons_succ, List.set_cons_zero])
    | ((with_reducible refine wpList_alloc_held (dst := some 6) 36 SumS.zero.arr (by kernel_rfl) alloc_sum ?_); intro V2 h6 b6 z6; have l6 : V1.heap.size < V2.heap.size := (by omega); clear z6; simp only [Act.put, List.setIfInBounds_toArray, List.set_cons_succ, List.set_cons_zero]; replace h5 := h5.below b6 h5.lt)
    | ((with_reducible refine wpList_store_held 32 (.tmp 5) (.tmp 14) V0.heap.size 32 _ T.arr (by kernel_rfl) (by kernel_rfl) (by kernel_rfl) h5 (by kernel_rfl) ITs.out (tot_one _) ?_); intro V3 g5 b3 z3; clear z3; have s3 := b3.size; simp only [Act.put, List.setIfInBounds_toArray, List.set_cons_succ, List.set_cons_zero]; replace h6 := b3.held (by omega) h6)
    | ((with_reducible refine wpList_store_held 36 (.tmp 6) (.tmp 15) V1.heap.size 36 _ S.arr (by kernel_rfl) (by kernel_rfl) (by kernel_rfl) h6 IZ.out ISs.out (sum_one _) ?_); intro V4 g6 b4 z4; clear z4; have s4 := b4.size; simp only [Act.put, List.setIfInBounds_toArray, List.set_cons_succ, List.set_cons_zero]; replace g5 := b4.held (by omega) g5))
  have hbw := hb1.size
  have hbb : Below w.heap.size w V4 := (((hb1.trans (b5.mono hbw)).trans (b6.mono (by omega))).trans (b3.below (by omega) (by omega))).trans (b4.below (by omega) (by omega))
  have b04 : Below V0.heap.size V0 V4 := ((b5.trans (b6.mono (by omega))).trans (b3.below (by omega) (by omega))).trans (b4.below (by omega) (by omega))
  have hX2 := hX1.below b04 hX1.lt
  have hB2 := hB1.below b04 hB1.lt
  have hwX := hX1.lt
  have hV1 : gb < V1.heap.size := by have := hB1.lt; omega
  have hwB := hB1.lt
  clear hX0 hB0 hb0 HC hbV hX1 hB1 hb1 h5 b5 h6 b6 b3 b4 b04
  go_wp2_with fail
  go_ret
  exact ⟨by rw [HEE.out]; rfl, hbb⟩
set_option maxHeartbeats 4000000 in
theorem badd_any (K : Int) (h0 : 0 ≤ K) (hK : K < 4611686018427387903) (b : Bk) (hb : b.ok K) (x : Ent) (hx : x.ok) (gb : Nat) (w : World) (hB : Held w gb 40 b.arr) (hT : WordsT w) :
    Calls Tryd.prog 9 #[.pointer (some ⟨gb, 0, none⟩), .agg x.arr] w (AddPost b x gb w) := by
  obtain ⟨X, hX⟩ : ∃ X, x.arr = X := ⟨_, rfl⟩
  have hlen := hx.2.2.2.2.2.2.2.2.2.2.1
  rw [hX]
  have HX := Lib.hid hX
  clear hX
  have hgl := hB.lt
  have hnl := (nextP_ok (K := K) h0 hb x hx).2.hash
  go_in
  go_upto_region 3 with (fail)
  have hX0 : Held (w.alloc (.cells X 28)) w.heap.size 28 X := Held.new w _ _
  have hB0 := hB.alloc (.cells X 28)
  have hb0 : Below w.heap.size w (w.alloc (.cells X 28)) := (Below.refl _ _).alloc (Nat.le_refl _) _
  generalize w.alloc (.cells X 28) = W1 at hX0 hB0 hb0 ⊢
  have HC : Hid (Calls Tryd.prog 26 #[.pointer (some ⟨gb, 0, none⟩), .agg X] W1 fun e w' => e = .returned (.tuple #[.agg (nextP b x).1.arr, .agg (nextP b x).2.1.arr, .int .i64 (nextP b x).2.2]) ∧ Below W1.heap.size W1 w') := Lib.hid (by rw [← HX.out]; exact next_any K hK b hb x hx gb W1 hB0 (hT.up hb0))
  have IX : Hid ((Tryd.prog.info? 28).map (·.size) = some X.size) := Lib.hid (by rw [ent_size x hlen, HX.out])
  obtain ⟨T, hTe⟩ : ∃ T, (nextP b x).1 = T := ⟨_, rfl⟩
  obtain ⟨S, hSe⟩ : ∃ S, (nextP b x).2.1 = S := ⟨_, rfl⟩
  obtain ⟨E, hEe⟩ : ∃ E, (nextP b x).2.2 = E := ⟨_, rfl⟩
  rw [hTe, hSe, hEe] at HC
  rw [hSe] at hnl
  have hsl : S.arr.size = 49 := SumS.arr_size _ hnl
  have ISs : Hid ((Tryd.prog.info? 36).map (·.size) = some S.arr.size) := Lib.hid (by rw [sum_size, hsl])
  have ITs : Hid ((Tryd.prog.info? 32).map (·.size) = some T.arr.size) := Lib.hid tot_size
  have IZ : Hid (S.arr.size = SumS.zero.arr.size) := Lib.hid (by rw [hsl, SumS.arr_size _ rfl])
  have HTE := Lib.hid hTe
  have HSE := Lib.hid hSe
  have HEE := Lib.hid hEe
  clear hTe hSe hEe
  go_upto_region 4 with (first
    | ((with_reducible refine wpList_load_held (dst := some 12) 28 (.tmp 3) w.heap.size 28 X _ (by kernel_rfl) (by kernel_rfl) hX0 Tryd.underlying28 (by kernel_rfl) IX.out ?_); simp only [Act.put, List.setIfInBounds_toArray, List.set_cons_succ, List.set_cons_zero])
    | (go_at_call 26; refine HC.out.mono ?_; rintro e V0 ⟨rfl, hbV⟩; have hX1 := hX0.below hbV hX0.lt; have hB1 := hB0.below hbV hB0.lt; have hb1 := hb0.trans (hbV.mono hb0.size))
    | ((with_reducible refine wpList_alloc_held (dst := some 5) 32 Tot.zero.arr (by kernel_rfl) alloc_tot ?_); intro V1 h5 b5 z5; have l5 : V0.heap.size < V1.heap.size := (by omega); clear z5; simp only [Act.put, List.setIfInBounds_toArray, List.set_cons_succ, List.set_cons_zero])
    | ((with_reducible refine wpList_alloc_held (dst := some 6) 36 SumS.zero.arr (by kernel_rfl) alloc_sum ?_); intro V2 h6 b6 z6; have l6 : V1.heap.size < V2.heap.size := (by omega); clear z6; simp only [Act.put, List.setIfInBounds_toArray, List.set_cons_succ, List.set_cons_zero]; replace h5 := h5.below b6 h5.lt)
    | ((with_reducible refine wpList_store_held 32 (.tmp 5) (.tmp 14) V0.heap.size 32 _ T.arr (by kernel_rfl) (by kernel_rfl) (by kernel_rfl) h5 (by kernel_rfl) ITs.out (tot_one _) ?_); intro V3 g5 b3 z3; clear z3; have s3 := b3.size; simp only [Act.put, List.setIfInBounds_toArray, List.set_cons_succ, List.set_cons_zero]; replace h6 := b3.held (by omega) h6)
    | ((with_reducible refine wpList_store_held 36 (.tmp 6) (.tmp 15) V1.heap.size 36 _ S.arr (by kernel_rfl) (by kernel_rfl) (by kernel_rfl) h6 IZ.out ISs.out (sum_one _) ?_); intro V4 g6 b4 z4; clear z4; have s4 := b4.size; simp only [Act.put, List.setIfInBounds_toArray, List.set_cons_succ, List.set_cons_zero]; replace g5 := b4.held (by omega) g5))
  have hbw := hb1.size
  have hbb : Below w.heap.size w V4 := (((hb1.trans (b5.mono hbw)).trans (b6.mono (by omega))).trans (b3.below (by omega) (by omega))).trans (b4.below (by omega) (by omega))
  have b04 : Below V0.heap.size V0 V4 := ((b5.trans (b6.mono (by omega))).trans (b3.below (by omega) (by omega))).trans (b4.below (by omega) (by omega))
  have hX2 := hX1.below b04 hX1.lt
  have hB2 := hB1.below b04 hB1.lt
  have hwX := hX1.lt
  have hV1 : gb < V1.heap.size := by have := hB1.lt; omega
  have hwB := hB1.lt
  clear hX0 hB0 hb0 HC hbV hX1 hB1 hb1 h5 b5 h6 b6 b3 b4 b04
  by_cases hE : E = 0
  · have hok := nextP_e b x (by rw [HEE.out]; exact hE)
    obtain ⟨hk15, hm, hbd, _⟩ := okE_in x hx hok
    clear hok
    obtain ⟨m, hm2⟩ : ∃ m : Nat, x.meter = m := ⟨x.meter.toNat, by omega⟩
    obtain ⟨k, hk2⟩ : ∃ k : Nat, x.band = k := ⟨x.band.toNat, by omega⟩
    have hm3 : m < 64 := by omega
    have hk3 : k < 8 := by omega
    have hm4 : (m : Int) < 64 := by omega
    have hk4 : (k : Int) < 8 := by omega
    have hmn : x.meter.toNat = m := by rw [hm2]; rfl
    have hkn : x.band.toNat = k := by rw [hk2]; rfl
    have hadd : addP b x = if x.kind = 5 then ({ b with many := b.many + 1, seals := b.seals + 1 }, 0) else ({ b with tot := b.tot.set (m * 8 + k) T, sums := b.sums.set m S, ofm := b.ofm.set m (b.ofAt m + 1), many := b.many + 1 }, 0) := by
      unfold addP
      rw [HEE.out, if_neg (by simp [hE]), HTE.out, HSE.out, hmn, hkn]
    obtain ⟨o, ho⟩ : ∃ o, b.ofAt m = o := ⟨_, rfl⟩
    rw [ho] at hadd
    have HO := Lib.hid ho
    have HADD := Lib.hid hadd
    have HM2 := Lib.hid hm2
    have HK2 := Lib.hid hk2
    have hEb : (E != 0) = false := by simp [hE]
    have hxc := ent_cells (e := x) (by rw [HX.out]; exact hX2)
    obtain ⟨xc0, _⟩ := hxc
    have mc : V4.cell? ⟨gb, 4736, none⟩ = some (.int .i64 b.many) := (hB2.cell 4736).trans (b.many_cell hb)
    have mf := hB2.frozen 4736
    have sc : V4.cell? ⟨gb, 4737, none⟩ = some (.int .i64 b.seals) := (hB2.cell 4737).trans (b.seals_cell hb)
    have sf := hB2.frozen 4737
    obtain ⟨hm0, hmK⟩ := hb.m
    obtain ⟨hs0, hsK⟩ := hb.e
    have hgx : w.heap.size ≠ gb := by omega
    have hxg : gb ≠ w.heap.size := by omega
    clear hadd hmn hkn hm2 hk2 hm hbd hE ho
    by_cases h5 : x.kind = 5
    · have HA2 : Hid (addP b x = ({ b with many := b.many + 1, seals := b.seals + 1 }, 0)) := Lib.hid (by rw [HADD.out, if_pos h5])
      rw [h5] at xc0
      clear h5 hk15
      have HBF : Hid (Held ((V4.setCell ⟨gb, 4736, none⟩ (.int .i64 (b.many + 1))).setCell ⟨gb, 4737, none⟩ (.int .i64 (b.seals + 1))) gb 40 ({ b with many := b.many + 1, seals := b.seals + 1 } : Bk).arr) := Lib.hid (by
        have h1 := hB2.set 4736 (.int .i64 (b.many + 1))
        rw [b.many_set hb] at h1
        have h2 := h1.set 4737 (.int .i64 (b.seals + 1))
        rw [Bk.seals_set (K := K + 1) ({ b with many := b.many + 1 } : Bk) { hb.mono (show K ≤ K + 1 by omega) with m := ⟨by show 0 ≤ _ + 1; omega, by show _ + 1 ≤ _ + 1; omega⟩ }] at h2
        exact h2)
      have HBT : Hid (But gb w ((V4.setCell ⟨gb, 4736, none⟩ (.int .i64 (b.many + 1))).setCell ⟨gb, 4737, none⟩ (.int .i64 (b.seals + 1)))) := Lib.hid (((But.of_below hbb).set _ _).set _ _)
      clear hB2
      go_wp2_with fail
      go_ret
      exact ⟨by rw [HA2.out]; rfl, by rw [HA2.out]; exact HBF.out, HBT.out⟩
    · have HA2 : Hid (addP b x = ({ b with tot := b.tot.set (m * 8 + k) T, sums := b.sums.set m S, ofm := b.ofm.set m (o + 1), many := b.many + 1 }, 0)) := Lib.hid (by rw [HADD.out, if_neg h5])
      have h5b : (x.kind == 5) = false := by simpa using h5
      clear h5 hk15
      go_upto_region 10 with (fail)
      obtain ⟨b1, hb1e⟩ : ∃ c : Bk, { b with many := b.many + 1 } = c := ⟨_, rfl⟩
      have hb1 : b1.ok (K + 1) := by rw [← hb1e]; exact { hb.mono (show K ≤ K + 1 by omega) with m := ⟨by show 0 ≤ _ + 1; omega, by show _ + 1 ≤ _ + 1; omega⟩ }
      have HOF : Hid (b1.ofAt m = o) := Lib.hid (by rw [← hb1e]; exact HO.out)
      have HB1E := Lib.hid hb1e
      obtain ⟨wq, hwq⟩ : ∃ W, V4.setCell ⟨gb, 4736, none⟩ (.int .i64 (b.many + 1)) = W := ⟨_, rfl⟩
      have qB : Held wq gb 40 b1.arr := by rw [← hwq, ← hb1e]; have h1 := hB2.set 4736 (.int .i64 (b.many + 1)); rw [b.many_set hb] at h1; exact h1
      have qt : But gb V4 wq := by rw [← hwq]; exact (But.refl gb V4).set _ _
      rw [hwq]
      clear hwq hb1e mc mf sc sf xc0 hB2 hm0 hmK hs0 hsK
      have qX := qt.held (by omega) hX2
      have q5 := qt.held (by omega) g5
      have q6 := qt.held (by omega) g6
      have qq : But gb w wq := (But.of_below hbb).trans qt
      clear qt hX2 g5 g6 hbb
      have hqB := qB.lt
      have hq6 := q6.lt
      obtain ⟨p5, hp5⟩ : ∃ p, V0.heap.size = p := ⟨_, rfl⟩
      obtain ⟨p6, hp6⟩ : ∃ p, V1.heap.size = p := ⟨_, rfl⟩
      simp only [hp5, hp6] at q5 q6 hwX hwB ⊢
      obtain ⟨hp5g, hp6g⟩ : gb < p5 ∧ gb < p6 := ⟨hwB, by rw [← hp6]; exact hV1⟩
      clear hp5 hp6
      obtain ⟨wd, hwd⟩ : ∃ W : World, wq.drew = W := ⟨_, rfl⟩
      have dX : Held wd w.heap.size 28 X := by rw [← hwd]; exact qX
      have d5 : Held wd p5 32 T.arr := by rw [← hwd]; exact q5
      have d6 : Held wd p6 36 S.arr := by rw [← hwd]; exact q6
      have dB : Held wd gb 40 b1.arr := by rw [← hwd]; exact qB
      have dd : But gb w wd := by rw [← hwd]; exact qq.drew
      have hS : Held wd w.heap.size 28 X ∧ Held wd p5 32 T.arr ∧ Held wd p6 36 S.arr := ⟨dX, d5, d6⟩
      have hbz := Bk.arr_size b1 hb1
      have HTH := Lib.hid (dB.there (m * 24 + k * 3) T.arr.size (by rw [hbz]; show m * 24 + k * 3 + 3 ≤ 4738; omega))
      have dB2 : Held (wd.setCells gb (m * 24 + k * 3) T.arr.toList) gb 40 ({ b1 with tot := b1.tot.set (m * 8 + k) T } : Bk).arr := b1.tot_store hb1 m k hm3 hk3 T dB
      have hTK : T.ok (K + 1) := by rw [← HTE.out]; exact (nextP_ok h0 hb x hx).1
      have hb2 : ({ b1 with tot := b1.tot.set (m * 8 + k) T } : Bk).ok (K + 1) := { hb1 with tl := by show (List.set _ _ _).length = _; rw [List.length_set]; exact hb1.tl, t := fun t ht => (List.mem_or_eq_of_mem_set ht).elim (fun h => hb1.t t h) (fun h => h ▸ hTK) }
      have hbz2 := Bk.arr_size _ hb2
      have HTS := Lib.hid (dB2.there (1536 + m * 49) S.arr.size (by rw [hbz2, hsl]; omega))
      have dB3 := Bk.sum_store _ hb2 m hm3 S hnl dB2
      have HB3 := Lib.hid dB3
      have HDD := Lib.hid dd
      have hSK : S.ok (K + 1) := by rw [← HSE.out]; exact (nextP_ok h0 hb x hx).2
      have hb3 : ({ b1 with tot := b1.tot.set (m * 8 + k) T, sums := b1.sums.set m S } : Bk).ok (K + 1) := { hb2 with sl := by show (List.set _ _ _).length = _; rw [List.length_set]; exact hb1.sl, s := fun s hs => (List.mem_or_eq_of_mem_set hs).elim (fun h => hb1.s s h) (fun h => h ▸ hSK) }
      clear qX q5 q6 qB qq dX d5 d6 dB dd dB2 dB3 hTK hSK hbz hbz2 hb2
      refine wp_region_held (S := fun W => Held W w.heap.size 28 X ∧ Held W p5 32 T.arr ∧ Held W p6 36 S.arr) (by kernel_rfl) ?_
      change wpAnyH _ _ _ _ _ _ _ _ wq.drew
      rw [hwd]
      clear hwd
      refine wpAnyH_take (i := 0) (v := ?v0_1) rfl (by kernel_rfl) (by kernel_rfl) (by kernel_rfl) (fun _ _ _ h => h) (Or.inl ⟨by rfl, ?y0_1⟩) hS ?r0_1
      case y0_1 =>
        rintro W hH
        go_simp
        with_reducible rfl
      simp only [Act.put]
      try simp only [List.getElem_toArray, List.getElem_cons_zero]
      try simp only [List.setIfInBounds_toArray, List.set_cons_succ, List.set_cons_zero]
      refine wpAnyH_take (i := 1) (v := ?v1_2) rfl (by kernel_rfl) (by kernel_rfl) (by kernel_rfl) (fun _ _ _ h => h) (Or.inl ⟨by rfl, ?y1_2⟩) hS ?r1_2
      case y1_2 =>
        rintro W hH
        go_simp
        with_reducible rfl
      simp only [Act.put]
      try simp only [List.getElem_toArray, List.getElem_cons_succ, List.getElem_cons_zero]
      try simp only [List.setIfInBounds_toArray, List.set_cons_succ, List.set_cons_zero]
      refine wpAnyH_take (i := 2) (v := ?v2_3) rfl (by kernel_rfl) (by kernel_rfl) (by kernel_rfl) (fun _ _ _ h => h) (Or.inl ⟨by rfl, ?y2_3⟩) hS ?r2_3
      case y2_3 =>
        rintro W hH
        have xc := ent_cells (e := x) (by rw [HX.out]; exact hH.1)
        obtain ⟨_, xc1, _, _, xc4, _⟩ := xc
        rw [HM2.out] at xc1
        rw [HK2.out] at xc4
        go_simp
        with_reducible rfl
      simp only [Act.put]
      try simp only [List.getElem_toArray, List.getElem_cons_succ, List.getElem_cons_zero]
      try simp only [List.setIfInBounds_toArray, List.set_cons_succ, List.set_cons_zero]
      refine wpAnyH_take (i := 3) (v := ?v3_4) rfl (by kernel_rfl) (by kernel_rfl) (by kernel_rfl) (fun _ _ _ h => h) (Or.inl ⟨by rfl, ?y3_4⟩) hS ?r3_4
      case y3_4 =>
        rintro W hH
        go_simp
        with_reducible rfl
      simp only [Act.put]
      try simp only [List.getElem_toArray, List.getElem_cons_succ, List.getElem_cons_zero]
      try simp only [List.setIfInBounds_toArray, List.set_cons_succ, List.set_cons_zero]
      refine wpAnyH_take (i := 4) (v := ?v4_5) rfl (by kernel_rfl) (by kernel_rfl) (by kernel_rfl) (fun _ _ _ h => h) (Or.inl ⟨by rfl, ?y4_5⟩) hS ?r4_5
      case y4_5 =>
        rintro W hH
        have xc := ent_cells (e := x) (by rw [HX.out]; exact hH.1)
        obtain ⟨_, xc1, _, _, xc4, _⟩ := xc
        rw [HM2.out] at xc1
        rw [HK2.out] at xc4
        go_simp
        with_reducible rfl
      simp only [Act.put]
      try simp only [List.getElem_toArray, List.getElem_cons_succ, List.getElem_cons_zero]
      try simp only [List.setIfInBounds_toArray, List.set_cons_succ, List.set_cons_zero]
      refine wpAnyH_take (i := 5) (v := ?v5_6) rfl (by kernel_rfl) (by kernel_rfl) (by kernel_rfl) (fun _ _ _ h => h) (Or.inl ⟨by rfl, ?y5_6⟩) hS ?r5_6
      case y5_6 =>
        rintro W hH
        go_simp
        with_reducible rfl
      simp only [Act.put]
      try simp only [List.getElem_toArray, List.getElem_cons_succ, List.getElem_cons_zero]
      try simp only [List.setIfInBounds_toArray, List.set_cons_succ, List.set_cons_zero]
      refine wpAnyH_take (i := 6) (v := ?v6_7) rfl (by kernel_rfl) (by kernel_rfl) (by kernel_rfl) (fun _ _ _ h => h) (Or.inl ⟨by rfl, ?y6_7⟩) hS ?r6_7
      case y6_7 =>
        rintro W hH
        go_simp
        with_reducible rfl
      simp only [Act.put]
      try simp only [List.getElem_toArray, List.getElem_cons_succ, List.getElem_cons_zero]
      try simp only [List.setIfInBounds_toArray, List.set_cons_succ, List.set_cons_zero]
      refine wpAnyH_take (i := 7) (v := ?v7_8) rfl (by kernel_rfl) (by kernel_rfl) (by kernel_rfl) (fun _ _ _ h => h) (Or.inl ⟨by rfl, ?y7_8⟩) hS ?r7_8
      case y7_8 =>
        rintro W hH
        have xc := ent_cells (e := x) (by rw [HX.out]; exact hH.1)
        obtain ⟨_, xc1, _, _, xc4, _⟩ := xc
        rw [HM2.out] at xc1
        rw [HK2.out] at xc4
        go_simp
        with_reducible rfl
      simp only [Act.put]
      try simp only [List.getElem_toArray, List.getElem_cons_succ, List.getElem_cons_zero]
      try simp only [List.setIfInBounds_toArray, List.set_cons_succ, List.set_cons_zero]
      refine wpAnyH_take (i := 8) (v := Value.agg T.arr) rfl (by kernel_rfl) (by kernel_rfl) (by kernel_rfl) (fun _ _ _ h => h) ?y8_9 hS ?r8_9
      case y8_9 => exact yieldsIf_load_held (by kernel_rfl) 32 (.tmp 5) rfl p5 32 T.arr _ (by kernel_rfl) (fun _ h => h.2.1) Tryd.underlying32 (by kernel_rfl) tot_size
      simp only [Act.put]
      try simp only [List.getElem_toArray, List.getElem_cons_succ, List.getElem_cons_zero]
      try simp only [List.setIfInBounds_toArray, List.set_cons_succ, List.set_cons_zero]
      refine wpAnyH_take (i := 9) (v := Value.agg S.arr) rfl (by kernel_rfl) (by kernel_rfl) (by kernel_rfl) (fun _ _ _ h => h) ?y9_10 hS ?r9_10
      case y9_10 => exact yieldsIf_load_held (by kernel_rfl) 36 (.tmp 6) rfl p6 36 S.arr _ (by kernel_rfl) (fun _ h => h.2.2) Tryd.underlying36 (by kernel_rfl) ISs.out
      simp only [Act.put]
      try simp only [List.getElem_toArray, List.getElem_cons_succ, List.getElem_cons_zero]
      try simp only [List.setIfInBounds_toArray, List.set_cons_succ, List.set_cons_zero]
      refine wpAnyH_take (i := 10) (v := ?v10_11) rfl (by kernel_rfl) (by kernel_rfl) (by kernel_rfl) (fun _ _ _ h => h) (Or.inl ⟨by rfl, ?y10_11⟩) hS ?r10_11
      case y10_11 =>
        rintro W hH
        go_simp
        with_reducible rfl
      simp only [Act.put]
      try simp only [List.getElem_toArray, List.getElem_cons_succ, List.getElem_cons_zero]
      try simp only [List.setIfInBounds_toArray, List.set_cons_succ, List.set_cons_zero]
      refine wpAnyH_take (i := 11) (v := ?v11_12) rfl (by kernel_rfl) (by kernel_rfl) (by kernel_rfl) (fun _ _ _ h => h) (Or.inl ⟨by rfl, ?y11_12⟩) hS ?r11_12
      case y11_12 =>
        rintro W hH
        go_simp
        with_reducible rfl
      simp only [Act.put]
      try simp only [List.getElem_toArray, List.getElem_cons_succ, List.getElem_cons_zero]
      try simp only [List.setIfInBounds_toArray, List.set_cons_succ, List.set_cons_zero]
      refine wpAnyH_take (i := 12) (v := ?v12_13) rfl (by kernel_rfl) (by kernel_rfl) (by kernel_rfl) (fun _ _ _ h => h) (Or.inl ⟨by rfl, ?y12_13⟩) hS ?r12_13
      case y12_13 =>
        rintro W hH
        go_simp
        with_reducible rfl
      simp only [Act.put]
      try simp only [List.getElem_toArray, List.getElem_cons_succ, List.getElem_cons_zero]
      try simp only [List.setIfInBounds_toArray, List.set_cons_succ, List.set_cons_zero]
      refine wpAnyH_take (i := 13) (v := ?v13_14) rfl (by kernel_rfl) (by kernel_rfl) (by kernel_rfl) (fun _ _ _ h => h) (Or.inl ⟨by rfl, ?y13_14⟩) hS ?r13_14
      case y13_14 =>
        rintro W hH
        go_simp
        with_reducible rfl
      simp only [Act.put]
      try simp only [List.getElem_toArray, List.getElem_cons_succ, List.getElem_cons_zero]
      try simp only [List.setIfInBounds_toArray, List.set_cons_succ, List.set_cons_zero]
      refine wpAnyH_take (i := 15) (v := ?v15_15) rfl (by kernel_rfl) (by kernel_rfl) (by kernel_rfl) (fun _ _ _ h => h) (Or.inl ⟨by rfl, ?y15_15⟩) hS ?r15_15
      case y15_15 =>
        rintro W hH
        go_simp
        with_reducible rfl
      simp only [Act.put]
      try simp only [List.getElem_toArray, List.getElem_cons_succ, List.getElem_cons_zero]
      try simp only [List.setIfInBounds_toArray, List.set_cons_succ, List.set_cons_zero]
      refine wpAnyH_take (i := 16) (v := ?v16_16) rfl (by kernel_rfl) (by kernel_rfl) (by kernel_rfl) (fun _ _ _ h => h) (Or.inl ⟨by rfl, ?y16_16⟩) hS ?r16_16
      case y16_16 =>
        rintro W hH
        go_simp
        with_reducible rfl
      simp only [Act.put]
      try simp only [List.getElem_toArray, List.getElem_cons_succ, List.getElem_cons_zero]
      try simp only [List.setIfInBounds_toArray, List.set_cons_succ, List.set_cons_zero]
      refine wpAnyH_ready (rs := [14]) (by kernel_rfl) (by simp) ?_
      refine AllReadyH.cons rfl (fun K' hK' => ?_) AllReadyH.nil
      refine wp_store_mid 32 (.tmp 50) (.tmp 45) rfl gb (m * 24 + k * 3) T.arr (by kernel_rfl) (by kernel_rfl) HTH.out tot_size (tot_one _) ?_
      simp only [Act.put]
      refine hK'.out _ _ ⟨hS.1.sets_far _ _ _ (by omega), hS.2.1.sets_far _ _ _ (by omega), hS.2.2.sets_far _ _ _ (by omega)⟩ (fun hS => ?_)
      clear hK' K'
      refine wpAnyH_take (i := 17) (v := ?v17_17) rfl (by kernel_rfl) (by kernel_rfl) (by kernel_rfl) (fun _ _ _ h => h) (Or.inl ⟨by rfl, ?y17_17⟩) hS ?r17_17
      case y17_17 =>
        rintro W hH
        go_simp
        with_reducible rfl
      simp only [Act.put]
      try simp only [List.getElem_toArray, List.getElem_cons_succ, List.getElem_cons_zero]
      try simp only [List.setIfInBounds_toArray, List.set_cons_succ, List.set_cons_zero]
      refine wpAnyH_ready (rs := [18]) (by kernel_rfl) (by simp) ?_
      refine AllReadyH.cons rfl (fun K' hK' => ?_) AllReadyH.nil
      refine wp_store_mid 36 (.tmp 53) (.tmp 46) rfl gb (1536 + m * 49) S.arr (by kernel_rfl) (by kernel_rfl) HTS.out ISs.out (sum_one _) ?_
      simp only [Act.put]
      refine hK'.out _ _ ⟨hS.1.sets_far _ _ _ (by omega), hS.2.1.sets_far _ _ _ (by omega), hS.2.2.sets_far _ _ _ (by omega)⟩ (fun hS => ?_)
      clear hK' K'
      refine wpAnyH_done (by kernel_rfl) ?_ _
      go_upto_region 11 with (fail)
      obtain ⟨wr, hwr⟩ : ∃ W : World, (wd.setCells gb (m * 24 + k * 3) T.arr.toList).setCells gb (1536 + m * 49) S.arr.toList = W := ⟨_, rfl⟩
      have rB : Held wr gb 40 ({ b1 with tot := b1.tot.set (m * 8 + k) T, sums := b1.sums.set m S } : Bk).arr := by rw [← hwr]; exact HB3.out
      have rX : Held wr w.heap.size 28 X := by rw [← hwr]; exact hS.1
      have rr : But gb w wr := by rw [← hwr]; exact But.sets _ _ (But.sets _ _ HDD.out)
      rw [hwr]
      clear hwr hS HB3 HDD HTH HTS
      obtain ⟨we, hwe⟩ : ∃ W : World, wr.drew = W := ⟨_, rfl⟩
      have eB : Held we gb 40 ({ b1 with tot := b1.tot.set (m * 8 + k) T, sums := b1.sums.set m S } : Bk).arr := by rw [← hwe]; exact rB
      have eX : Held we w.heap.size 28 X := by rw [← hwe]; exact rX
      have ee : But gb w we := by rw [← hwe]; exact rr.drew
      clear rB rX rr
      have hS : Held we w.heap.size 28 X := eX
      have ec : we.cell? ⟨gb, 4672 + m, none⟩ = some (.int .i64 o) := ((eB.cell _).trans (Bk.of_cell _ hb3 m hm3)).trans (by show some (Value.int .i64 (b1.ofAt m)) = _; rw [HOF.out])
      have ef := eB.frozen (4672 + m)
      have hoK := hb.ofAt m hm3
      rw [HO.out] at hoK
      obtain ⟨ho0, hoK⟩ := hoK
      have hwrap : IntKind.i64.wrap (o + 1) = o + 1 := IntWalk.i64_in _ (by omega)
      have hBF : Held (we.setCell ⟨gb, 4672 + m, none⟩ (.int .i64 (o + 1))) gb 40 ({ b1 with tot := b1.tot.set (m * 8 + k) T, sums := b1.sums.set m S, ofm := b1.ofm.set m (o + 1) } : Bk).arr := by
        have := eB.set (4672 + m) (.int .i64 (o + 1))
        rw [Bk.of_set _ hb3 m _ hm3] at this
        exact this
      have HBF := Lib.hid hBF
      have HBT : Hid (But gb w (we.setCell ⟨gb, 4672 + m, none⟩ (.int .i64 (o + 1)))) := Lib.hid (ee.set _ _)
      clear eB eX ee hBF
      refine wp_region_held (S := fun W => Held W w.heap.size 28 X) (by kernel_rfl) ?_
      change wpAnyH _ _ _ _ _ _ _ _ wr.drew
      rw [hwe]
      clear hwe
      refine wpAnyH_take (i := 0) (v := ?v0_501) rfl (by kernel_rfl) (by kernel_rfl) (by kernel_rfl) (fun _ _ _ h => h) (Or.inl ⟨by rfl, ?y0_501⟩) hS ?r0_501
      case y0_501 =>
        rintro W hH
        go_simp
        with_reducible rfl
      simp only [Act.put]
      try simp only [List.getElem_toArray, List.getElem_cons_zero]
      try simp only [List.setIfInBounds_toArray, List.set_cons_succ, List.set_cons_zero]
      refine wpAnyH_take (i := 1) (v := ?v1_502) rfl (by kernel_rfl) (by kernel_rfl) (by kernel_rfl) (fun _ _ _ h => h) (Or.inl ⟨by rfl, ?y1_502⟩) hS ?r1_502
      case y1_502 =>
        rintro W hH
        go_simp
        with_reducible rfl
      simp only [Act.put]
      try simp only [List.getElem_toArray, List.getElem_cons_succ, List.getElem_cons_zero]
      try simp only [List.setIfInBounds_toArray, List.set_cons_succ, List.set_cons_zero]
      refine wpAnyH_take (i := 2) (v := ?v2_503) rfl (by kernel_rfl) (by kernel_rfl) (by kernel_rfl) (fun _ _ _ h => h) (Or.inl ⟨by rfl, ?y2_503⟩) hS ?r2_503
      case y2_503 =>
        rintro W hH
        have xc := ent_cells (e := x) (by rw [HX.out]; exact hH)
        obtain ⟨_, xc1, _⟩ := xc
        rw [HM2.out] at xc1
        go_simp
        with_reducible rfl
      simp only [Act.put]
      try simp only [List.getElem_toArray, List.getElem_cons_succ, List.getElem_cons_zero]
      try simp only [List.setIfInBounds_toArray, List.set_cons_succ, List.set_cons_zero]
      refine wpAnyH_take (i := 3) (v := ?v3_504) rfl (by kernel_rfl) (by kernel_rfl) (by kernel_rfl) (fun _ _ _ h => h) (Or.inl ⟨by rfl, ?y3_504⟩) hS ?r3_504
      case y3_504 =>
        rintro W hH
        go_simp
        with_reducible rfl
      simp only [Act.put]
      try simp only [List.getElem_toArray, List.getElem_cons_succ, List.getElem_cons_zero]
      try simp only [List.setIfInBounds_toArray, List.set_cons_succ, List.set_cons_zero]
      refine wpAnyH_take (i := 4) (v := ?v4_505) rfl (by kernel_rfl) (by kernel_rfl) (by kernel_rfl) (fun _ _ _ h => h) (Or.inl ⟨by rfl, ?y4_505⟩) hS ?r4_505
      case y4_505 =>
        rintro W hH
        go_simp
        with_reducible rfl
      simp only [Act.put]
      try simp only [List.getElem_toArray, List.getElem_cons_succ, List.getElem_cons_zero]
      try simp only [List.setIfInBounds_toArray, List.set_cons_succ, List.set_cons_zero]
      refine wpAnyH_take (i := 5) (v := ?v5_506) rfl (by kernel_rfl) (by kernel_rfl) (by kernel_rfl) (fun _ _ _ h => h) (Or.inl ⟨by rfl, ?y5_506⟩) hS ?r5_506
      case y5_506 =>
        rintro W hH
        go_simp
        with_reducible rfl
      simp only [Act.put]
      try simp only [List.getElem_toArray, List.getElem_cons_succ, List.getElem_cons_zero]
      try simp only [List.setIfInBounds_toArray, List.set_cons_succ, List.set_cons_zero]
      refine wpAnyH_take (i := 8) (v := ?v8_507) rfl (by kernel_rfl) (by kernel_rfl) (by kernel_rfl) (fun _ _ _ h => h) (Or.inl ⟨by rfl, ?y8_507⟩) hS ?r8_507
      case y8_507 =>
        rintro W hH
        go_simp
        with_reducible rfl
      simp only [Act.put]
      try simp only [List.getElem_toArray, List.getElem_cons_succ, List.getElem_cons_zero]
      try simp only [List.setIfInBounds_toArray, List.set_cons_succ, List.set_cons_zero]
      refine wpAnyH_take (i := 9) (v := ?v9_508) rfl (by kernel_rfl) (by kernel_rfl) (by kernel_rfl) (fun _ _ _ h => h) (Or.inl ⟨by rfl, ?y9_508⟩) hS ?r9_508
      case y9_508 =>
        rintro W hH
        go_simp
        with_reducible rfl
      simp only [Act.put]
      try simp only [List.getElem_toArray, List.getElem_cons_succ, List.getElem_cons_zero]
      try simp only [List.setIfInBounds_toArray, List.set_cons_succ, List.set_cons_zero]
      refine wpAnyH_ready (rs := [6]) (by kernel_rfl) (by simp) ?_
      refine AllReadyH.cons rfl (fun K' hK' => ?_) AllReadyH.nil
      go_simp
      refine hK'.out _ _ hS (fun hS => ?_)
      clear hK' K'
      refine wpAnyH_take (i := 7) (v := ?v7_509) rfl (by kernel_rfl) (by kernel_rfl) (by kernel_rfl) (fun _ _ _ h => h) (Or.inl ⟨by rfl, ?y7_509⟩) hS ?r7_509
      case y7_509 =>
        rintro W hH
        go_simp
        with_reducible rfl
      simp only [Act.put]
      try simp only [List.getElem_toArray, List.getElem_cons_succ, List.getElem_cons_zero]
      try simp only [List.setIfInBounds_toArray, List.set_cons_succ, List.set_cons_zero]
      refine wpAnyH_take (i := 10) (v := ?v10_510) rfl (by kernel_rfl) (by kernel_rfl) (by kernel_rfl) (fun _ _ _ h => h) (Or.inl ⟨by rfl, ?y10_510⟩) hS ?r10_510
      case y10_510 =>
        rintro W hH
        go_simp
        with_reducible rfl
      simp only [Act.put]
      try simp only [List.getElem_toArray, List.getElem_cons_succ, List.getElem_cons_zero]
      try simp only [List.setIfInBounds_toArray, List.set_cons_succ, List.set_cons_zero]
      refine wpAnyH_ready (rs := [11]) (by kernel_rfl) (by simp) ?_
      refine AllReadyH.cons rfl (fun K' hK' => ?_) AllReadyH.nil
      go_simp
      refine hK'.out _ _ (hS.far (p := ⟨gb, 4672 + m, none⟩) (by show w.heap.size ≠ gb; omega) _) (fun hS => ?_)
      clear hK' K'
      refine wpAnyH_done (by kernel_rfl) ?_ _
      go_wp2_with fail
      go_ret
      exact ⟨by rw [HA2.out]; rfl, by rw [HA2.out]; have := HBF.out; rw [← HB1E.out] at this; exact this, HBT.out⟩
  · have hEb : (E != 0) = true := by simp [hE]
    have hadd : addP b x = (b, E) := by unfold addP; rw [HEE.out, if_pos hE]
    have HADD := Lib.hid hadd
    clear hadd hE
    go_wp2_with fail
    go_ret
    exact ⟨by rw [HADD.out]; rfl, by rw [HADD.out]; exact hB2, But.of_below hbb⟩
end Go.Proofs.YtjcpgnachkhjaaaDoor
