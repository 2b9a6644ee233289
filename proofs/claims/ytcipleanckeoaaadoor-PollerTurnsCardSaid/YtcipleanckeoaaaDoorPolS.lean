/- PollerSilent: the walk. -/
import Derived.Test.YtcipleanckeoaaaDoorPolP
import Derived.Test.YtcipleanckeoaaaDoorPolQ
import Derived.Test.YtcipleanckeoaaaDoorPolN
namespace Go.Proofs.YtcipleanckeoaaaDoor
open Go.RowKit
attribute [local go_sem] Oper.semAt_some
set_option linter.unusedVariables false
set_option linter.unusedSimpArgs false
set_option maxRecDepth 100000
/-- What a round keeps. -/
def SilR (w : World) (pb g gl gt cap : Nat) (A : Option Addr) (n cp : Nat) (c : PCf) (N i : Nat) (s : PSt) (last trl : List Int) (wx : World) : Prop :=
  PolAt wx g gl cap c s ∧ PInv c N s last (i * 148000000000) ∧ SilI c N s trl ∧ PtsB s (2 * i) ∧ IntsAt wx gt 3 trl ∧ Held wx pb 75 (polC0 A n cp c) ∧ Below w.heap.size w wx
theorem polC0_cells {W : World} {pb : Nat} {A : Option Addr} {n cp : Nat} {c : PCf} (h : Held W pb 75 (polC0 A n cp c)) :
    W.cell? ⟨pb, 0, none⟩ = some (.slice A n cp) ∧ W.cell? ⟨pb, 1, none⟩ = some (.int .i64 c.tmo) ∧ W.cell? ⟨pb, 2, none⟩ = some (.int .i64 c.sil) ∧ W.cell? ⟨pb, 3, none⟩ = some (.int .i64 c.ret) ∧ W.cell? ⟨pb, 4, none⟩ = some (.int .i64 c.per) ∧ W.cell? ⟨pb, 5, none⟩ = some (.int .i64 c.fls) :=
  ⟨h.cell 0, h.cell 1, h.cell 2, h.cell 3, h.cell 4, h.cell 5⟩
set_option maxHeartbeats 4000000 in
theorem silent_any (A : Option Addr) (n cp : Nat) (c : PCf) (ps : List PPt) (steps : Int) (hst : 0 ≤ steps ∧ steps < 256) (w : World) (hT : LimT w) (hD : PtsI w w.heap.size A n cp ps) (hz : ∀ x ∈ ps, x.due = 0 ∧ x.fails = 0 ∧ x.turns = 0) :
    Calls Tryd.prog 9 #[.agg (polC0 A n cp c), .int .u8 steps] w fun e w' => e = .returned (.bool true) ∧ Below w.heap.size w w' := by
  have hglim : 1 < w.heap.size := by obtain ⟨v, hv⟩ : ∃ v, limL[0]? = some v := ⟨_, rfl⟩; exact World.block_lt_of_cell? w _ (hT 0 v hv)
  have HT := Lib.hid (fun (X : World) (h : Below w.heap.size w X) => hT.up h)
  have HD := Lib.hid (fun (X : World) (h : Below w.heap.size w X) => hD.up h)
  have HZ := Lib.hid hz
  have HLEN := Lib.hid hD.1
  obtain ⟨w1, hw1⟩ : ∃ W, w.alloc (.cells (polC0 A n cp c) 75) = W := ⟨_, rfl⟩
  have hb1 : Below w.heap.size w w1 := by rw [← hw1]; exact (Below.refl _ w).alloc (Nat.le_refl _) _
  have hK1 : Held w1 w.heap.size 75 (polC0 A n cp c) := by rw [← hw1]; exact Held.new w _ _
  have HK1 := Lib.hid hK1
  have HAL := Lib.hid (alive_any w1 (HT.out w1 hb1))
  have hlt1 := hK1.lt
  have hw256 : IntKind.i64.wrap steps = steps := by simp only [IntKind.wrap_i64]; omega
  obtain ⟨K, hK⟩ : ∃ K : Nat, steps.tmod 201 = K := ⟨(steps.tmod 201).toNat, by have := Int.tmod_nonneg 201 hst.1; omega⟩
  have hK2 : K ≤ 200 := by
    have := Int.tmod_lt_of_pos steps (show (0 : Int) < 201 by omega)
    omega
  clear hT hD hz hK1
  go_in
  go_wp2_with fail
  refine HAL.out.mono ?_
  rintro e w2 ⟨rfl, b2⟩
  have hb2 := hb1.trans (b2.mono hb1.size)
  have hK2' := HK1.out.below b2 hlt1
  have HK2 := Lib.hid hK2'
  obtain ⟨k0, k1, k2, k3, k4, k5⟩ := polC0_cells hK2'
  have hlt2 := hK2'.lt
  clear hK2' b2
  go_wp2_with fail
  refine (great23_any A n cp c none 0 0 [] w2 ⟨rfl, Nat.le_refl _, Nat.zero_le _, fun h => by omega⟩).mono ?_
  rintro e w3 ⟨⟨v, rfl, hv⟩, b3⟩
  have hb3 := hb2.trans (b3.mono hb2.size)
  have hK3 := HK2.out.below b3 hlt2
  have HK3 := Lib.hid hK3
  have hlt3 := hK3.lt
  clear k0 k1 k2 k3 k4 k5
  obtain ⟨k0, k1, k2, k3, k4, k5⟩ := polC0_cells hK3
  clear hK3 b3
  rcases hv with ⟨rfl, hv⟩ | rfl
  · have HV := Lib.hid hv
    clear hv
    go_wp2_with fail
    refine (new_any A n cp c ps w3 (HT.out w3 hb3) (HD.out w3 hb3) HZ.out).mono ?_
    rintro e w4 (⟨rfl, _, b4⟩ | ⟨g, gl, cap, rfl, hA, hP, hg, hgl, b4⟩)
    · have hb4 := hb3.trans (b4.mono hb3.size)
      clear b4
      go_wp2_with fail
      go_ret
      exact ⟨rfl, hb4⟩
    · have HA := Lib.hid hA
      have HP := Lib.hid hP
      have hb4 := hb3.trans (b4.mono hb3.size)
      have hz3 := hb3.size
      have hz4 := b4.size
      have hK4 := HK3.out.below b4 hlt3
      have HK4 := Lib.hid hK4
      have hlt4 := hK4.lt
      clear k0 k1 k2 k3 k4 k5
      obtain ⟨k0, k1, k2, k3, k4, k5⟩ := polC0_cells hK4
      have hgl4 := hP.lt
      clear hK4 b4 hP hA
      have hn64 : n ≤ 64 := by have := HA.out.2.2.1; have := HLEN.out; omega
      have hmk := fun W : World => make_ints 3 W n (by omega) 82 Tryd.underlying82 _ rfl rfl rfl (by decide)
      obtain ⟨w5, hw5⟩ : ∃ Y : World, w4.alloc (.cells (Array.replicate n (.int .i64 0)) 3) = Y := ⟨_, rfl⟩
      have b5 : Below w4.heap.size w4 w5 := by rw [← hw5]; exact (Below.refl _ _).alloc (Nat.le_refl _) _
      have hb5 := hb4.trans (b5.mono hb4.size)
      have hT5 : IntsAt w5 w4.heap.size 3 (List.replicate n 0) := by rw [← hw5]; exact IntsAt.made _ _ _
      have hK5 := HK4.out.below b5 hlt4
      have hst : PInv c n (newS ps) (List.replicate n 0) 0 := by
        have h := PInv.start c HA.out.1 ps (fun i x hx => HZ.out x (List.mem_of_getElem? hx))
        rw [HLEN.out] at h
        exact h
      have hsi : SilI c n (newS ps) (List.replicate n 0) := by
        have h := SilI.start c ps (fun i x hx => HZ.out x (List.mem_of_getElem? hx))
        rw [HLEN.out] at h
        exact h
      have hPB : PtsB (newS ps) (2 * (0 : Nat)) := fun k x hx => by
        have hm := List.mem_of_getElem? (show ps[k]? = some x from hx)
        have h1 := HZ.out x hm
        have h2 := HA.out.2.2.2 x hm
        exact ⟨h2, by omega, by omega⟩
      have HS0 : Hid (SilR w w.heap.size g gl w4.heap.size cap A n cp c n 0 (newS ps) (List.replicate n 0) (List.replicate n 0) w5) := Lib.hid ⟨HP.out.up b5, by simpa using hst, hsi, hPB, hT5, hK5, hb5⟩
      have hn1 : 1 ≤ n := by have := HA.out.2.1; have := HLEN.out; omega
      clear hst hsi hPB hT5 hK5 hb5 b5
      go_wp2_with fail
      clear hw5 hw1 hw256 hmk k0 k1 k2 k3 k4 k5
      go_loopw [44] (fun s44 wx => ∃ (i : Nat) (s : PSt) (last trl : List Int), s44 = .int .i64 i ∧ i ≤ K ∧ SilR w w.heap.size g gl w4.heap.size cap A n cp c n i s last trl wx) (fun s44 _ => K - (intOf s44).toNat)
      case atStart => exact ⟨0, _, _, _, rfl, Nat.zero_le _, HS0.out⟩
      case round =>
        obtain ⟨i, s, last, trl, rfl, hi, hP, hI, hS, hB, hTr, hKr, hbr⟩ := hrel
        by_cases hlt : i < K
        · have hltI : (i : Int) < (K : Int) := by omega
          have hpc := HA.out.1
          have hl := hI.ln
          have hnw := hI.nw
          have haw := hI.aw
          have hstep := hI.step hpc hn1 (((i + 1 : Nat) : Int) * 148000000000) (by omega)
          have hsil := SilI.step hpc hn1 hI hS
          have hB2 := hB.step c (nextP c s)
          have HSTEP := Lib.hid (fun (W : World) (h1 : LimT W) (h2 : PolAt W g gl cap c s) => stepn_any g gl cap c hpc n s last (i * 148000000000) (2 * i) W h1 (by omega) h2 hI (by omega) (by omega) hB (by omega))
          have HNX := Lib.hid (next_any g gl cap c s wr hP (by omega) (by omega) (by have := hpc.1; omega))
          obtain ⟨t, ht⟩ : ∃ t, nextP c s = t := ⟨_, rfl⟩
          rw [ht] at hstep hsil hB2 HSTEP HNX
          obtain ⟨r, hr⟩ : ∃ r, stepP c s t = r := ⟨_, rfl⟩
          rw [hr] at hstep hsil hB2 HSTEP
          clear hr ht
          obtain ⟨s', sent, failed⟩ := r
          obtain ⟨_, hnow, last', _, hI'⟩ := hstep
          dsimp only at hsil hB2 hnow hI'
          have hopn : -1 ≤ s.opn ∧ s.opn < s.l.length := by
            rcases hI.op with ⟨h, _⟩ | ⟨k, h, h2, _⟩ <;> omega
          have hopn' : -1 ≤ s'.opn := by
            rcases hI'.op with ⟨h, _⟩ | ⟨k, h, h2, _⟩ <;> omega
          have hl' := hI'.ln
          obtain ⟨kk, hkk⟩ : ∃ kk, s.opn = kk := ⟨_, rfl⟩
          obtain ⟨off, hoff⟩ : ∃ off, offO c s kk = off := ⟨_, rfl⟩
          have HSA := Lib.hid (fun (W : World) (h2 : PolAt W g gl cap c s) => askingn_any g gl cap c s W h2 (by omega) hopn.1)
          have HOF := Lib.hid (fun (W : World) (h2 : PolAt W g gl cap c s) => offlinen_any g gl cap c s kk W h2 (by omega))
          rw [hkk] at HSA
          rw [hoff] at HOF
          have HOFF := Lib.hid hoff
          have HKK := Lib.hid hkk
          obtain ⟨tv, htv⟩ : ∃ tv, triV s = tv := ⟨_, rfl⟩
          rw [htv] at HSA
          have HP1 := Lib.hid hP
          have HTr := Lib.hid hTr
          have HKr := Lib.hid hKr
          have HI' := Lib.hid hI'
          have HSIL := Lib.hid hsil
          have HTLEN := Lib.hid hS.len
          have HB2 := Lib.hid hB2
          have hpb := HP1.out.lt
          have hret := hpc.2.2.1
          have hwrr : IntKind.i64.wrap (c.ret + 1) = c.ret + 1 := by simp only [IntKind.wrap_i64]; omega
          have hwri : IntKind.i64.wrap ((i : Int) + 1) = (i : Int) + 1 := by simp only [IntKind.wrap_i64]; omega
          clear hoff hkk htv hP hI hS hB hTr hKr hsil hB2 hI' hnow hnw haw
          go_wp2_with fail
          refine HNX.out.mono ?_
          rintro e w6 ⟨rfl, b6⟩
          have hP6 := HP1.out.up b6
          go_wp2_with fail
          refine (HSA.out w6 hP6).mono ?_
          rintro e w7 ⟨rfl, n7, hw7⟩
          have b7 := drewN_below hw7
          have hP7 := hP6.up b7
          clear hw7
          go_wp2_with fail
          refine (HOF.out w7 hP7).mono ?_
          rintro e w8 ⟨rfl, n8, hw8⟩
          have b8 := drewN_below hw8
          have hP8 := hP7.up b8
          have b68 := b6.trans ((b7.trans (b8.mono b7.size)).mono b6.size)
          have hb8 := hbr.trans (b68.mono hbr.size)
          have HP8 := Lib.hid hP8
          have HB68 := Lib.hid b68
          have hz8 := b68.size
          clear hw8 hP6 hP7 hP8 b6 b7 b8 b68
          go_wp2_with fail
          refine (HSTEP.out w8 (HT.out w8 hb8) HP8.out).mono ?_
          rintro e w9 ⟨As, ns, cs, rfl, hsent, hnsent, hP9, b9⟩
          dsimp only at hsent hnsent hP9
          have HP9 := Lib.hid hP9
          have hTr9 : IntsAt w9 w4.heap.size 3 trl := b9.held (HTr.out.below HB68.out HTr.out.lt) (by omega) (by omega)
          have hK9 : Held w9 w.heap.size 75 (polC0 A n cp c) := b9.held (HKr.out.below HB68.out HKr.out.lt) (by omega) (by omega)
          have hb9 := hb8.trans (b9.below (n := w.heap.size) (by omega) (by omega) hb8.size)
          have HTr9 := Lib.hid hTr9
          have HK9 := Lib.hid hK9
          have HB9 := Lib.hid hb9
          have hlt9 := hK9.lt
          have hltT := Held.lt hTr9
          clear hP9 b9 hb9
          rcases HSIL.out with ⟨k, x, y, hk1, hk2, rfl, rfl, hk5, hx, hy, hv, hS'⟩ | ⟨k, y, v, hk1, rfl, rfl, hk4, hy, hv, htr, hty, hS'⟩ | ⟨rfl, rfl, hS'⟩
          · obtain rfl : ns = 0 := hnsent rfl
            obtain rfl : kk = (k : Int) := HKK.out.symm.trans hk2
            have hoff : off = offB c x := by rw [← HOFF.out]; exact offO_nat c s k x hx
            have hfr9 := hTr9.frozen k
            obtain ⟨want, hwant⟩ : ∃ want, (if c.fls ≤ x.fails then 1 else c.ret + 1) = want := ⟨_, rfl⟩
            rw [hwant] at hv
            have hc9 := hTr9.cell hv
            have HV9 := Lib.hid hv
            obtain ⟨k0, k1, k2, k3, k4, k5⟩ := polC0_cells hK9
            obtain ⟨b, hbq⟩ : ∃ b, decide (c.fls ≤ y.fails) = b := ⟨_, rfl⟩
            have HOF' := Lib.hid (fun (m : Nat) => Offline_any g gl cap c s' k y (w9.drewN m) (HP9.out.drewN m) hy)
            have HFA' := Lib.hid (fun (m : Nat) => fails_any g gl cap c s' k y (w9.drewN m) (HP9.out.drewN m) hy)
            rw [show offB c y = b from hbq] at HOF'
            have hkI : (k : Int) < (n : Int) := by omega
            have HS' := Lib.hid hS'
            have HOPN := Lib.hid hk5
            have HWAN := Lib.hid hwant
            have hoffw : off = decide (c.fls ≤ x.fails) := hoff
            clear hTr9 hK9 hsent hnsent hv hS' hk5 hy hwant hoff hx hk2
            have hlw : k < n := hk1
            cases off
            · obtain rfl : want = c.ret + 1 := by rw [← HWAN.out, if_neg (of_decide_eq_false hoffw.symm)]
              clear hoffw
              go_wp2_with fail
              go_quiet (first | (go_at_call 39; exact quiet_more (HOF'.out _)) | (go_at_call 42; exact quiet_left (HFA'.out _)))
              obtain ⟨w10, hw10⟩ : ∃ Y : World, w9.drewN nq = Y := ⟨_, rfl⟩
              have hT10 : IntsAt w10 w4.heap.size 3 trl := by rw [← hw10]; exact HTr9.out
              have hP10 : PolAt w10 g gl cap c s' := by rw [← hw10]; exact HP9.out.drewN _
              have hK10 : Held w10 w.heap.size 75 (polC0 A n cp c) := by rw [← hw10]; exact HK9.out
              have hb10 : Below w.heap.size w w10 := by rw [← hw10]; exact below_drewN HB9.out _
              have hfr10 := hT10.frozen k
              have hc10 := hT10.cell HV9.out
              have hlt10 := Held.lt hT10
              obtain ⟨w11, hw11⟩ : ∃ Y : World, w10.setCell ⟨w4.heap.size, k, none⟩ (.int .i64 0) = Y := ⟨_, rfl⟩
              have hT11 : IntsAt w11 w4.heap.size 3 (trl.set k 0) := by rw [← hw11]; exact hT10.set k 0
              have hP11 : PolAt w11 g gl cap c s' := by rw [← hw11]; exact hP10.far (by omega) (by omega) _
              have hK11 : Held w11 w.heap.size 75 (polC0 A n cp c) := by rw [← hw11]; exact hK10.far (by show w.heap.size ≠ w4.heap.size; omega) _
              have hb11 : Below w.heap.size w w11 := by rw [← hw11]; exact hb10.setCell (p := ⟨w4.heap.size, k, none⟩) (by show w.heap.size ≤ w4.heap.size; omega) _
              have HX11 := Lib.hid (And.intro hP11 (And.intro hT11 (And.intro hK11 hb11)))
              rw [hw10]
              clear hw10 hT10 hP10 hK10 hb10 hT11 hP11 hK11 hb11 hc9 hfr9 k0 k1 k2 k3 k4 k5
              go_wp2_with fail
              refine (askingn_any g gl cap c s' w11 HX11.out.1 (by omega) hopn').mono ?_
              rw [HOPN.out, show triV s' = 0 by unfold triV; rw [if_pos (by rw [HOPN.out]; decide)]]
              rintro e w12 ⟨rfl, n12, hw12⟩
              clear hw11
              go_wp2_with fail
              go_roundw
              case rel => exact ⟨i + 1, s', last', trl.set k 0, by go_num, by omega, ⟨HX11.out.1.drewN _, HI'.out, HS'.out, HB2.out.grow (by omega), HX11.out.2.1, HX11.out.2.2.1, below_drewN HX11.out.2.2.2 _⟩⟩
              case measure => simp [intOf]; omega
            · obtain rfl : want = 1 := by rw [← HWAN.out, if_pos (of_decide_eq_true hoffw.symm)]
              clear hoffw
              go_wp2_with fail
              go_quiet (first | (go_at_call 39; exact quiet_more (HOF'.out _)) | (go_at_call 42; exact quiet_left (HFA'.out _)))
              obtain ⟨w10, hw10⟩ : ∃ Y : World, w9.drewN nq = Y := ⟨_, rfl⟩
              have hT10 : IntsAt w10 w4.heap.size 3 trl := by rw [← hw10]; exact HTr9.out
              have hP10 : PolAt w10 g gl cap c s' := by rw [← hw10]; exact HP9.out.drewN _
              have hK10 : Held w10 w.heap.size 75 (polC0 A n cp c) := by rw [← hw10]; exact HK9.out
              have hb10 : Below w.heap.size w w10 := by rw [← hw10]; exact below_drewN HB9.out _
              have hfr10 := hT10.frozen k
              have hc10 := hT10.cell HV9.out
              have hlt10 := Held.lt hT10
              obtain ⟨w11, hw11⟩ : ∃ Y : World, w10.setCell ⟨w4.heap.size, k, none⟩ (.int .i64 0) = Y := ⟨_, rfl⟩
              have hT11 : IntsAt w11 w4.heap.size 3 (trl.set k 0) := by rw [← hw11]; exact hT10.set k 0
              have hP11 : PolAt w11 g gl cap c s' := by rw [← hw11]; exact hP10.far (by omega) (by omega) _
              have hK11 : Held w11 w.heap.size 75 (polC0 A n cp c) := by rw [← hw11]; exact hK10.far (by show w.heap.size ≠ w4.heap.size; omega) _
              have hb11 : Below w.heap.size w w11 := by rw [← hw11]; exact hb10.setCell (p := ⟨w4.heap.size, k, none⟩) (by show w.heap.size ≤ w4.heap.size; omega) _
              have HX11 := Lib.hid (And.intro hP11 (And.intro hT11 (And.intro hK11 hb11)))
              rw [hw10]
              clear hw10 hT10 hP10 hK10 hb10 hT11 hP11 hK11 hb11 hc9 hfr9 k0 k1 k2 k3 k4 k5
              go_wp2_with fail
              refine (askingn_any g gl cap c s' w11 HX11.out.1 (by omega) hopn').mono ?_
              rw [HOPN.out, show triV s' = 0 by unfold triV; rw [if_pos (by rw [HOPN.out]; decide)]]
              rintro e w12 ⟨rfl, n12, hw12⟩
              clear hw11
              go_wp2_with fail
              go_roundw
              case rel => exact ⟨i + 1, s', last', trl.set k 0, by go_num, by omega, ⟨HX11.out.1.drewN _, HI'.out, HS'.out, HB2.out.grow (by omega), HX11.out.2.1, HX11.out.2.2.1, below_drewN HX11.out.2.2.2 _⟩⟩
              case measure => simp [intOf]; omega
          · obtain rfl : ns = 8 := (hsent rfl).1
            have hfr9 := hTr9.frozen k
            have hc9 := hTr9.cell hv
            have HV9 := Lib.hid hv
            have hkI : (k : Int) < (n : Int) := by omega
            have HS' := Lib.hid hS'
            have HOPN := Lib.hid hk4
            have HTU' := Lib.hid (fun (W : World) (h : PolAt W g gl cap c s') => turns_any g gl cap c s' k y W h hy)
            have HFA' := Lib.hid (fun (W : World) (h : PolAt W g gl cap c s') => fails_any g gl cap c s' k y W h hy)
            have hyb := HB2.out k y hy
            have hvl : trl.length = n := HTLEN.out
            have hv200 : 0 ≤ v + 1 ∧ v + 1 ≤ 100 := by
              have h1 := HS'.out.pt k y (v + 1) hy (by rw [List.getElem?_set_self (by rw [hvl]; exact hk1)])
              rcases HI'.out.op with ⟨h, _⟩ | ⟨k2, hO⟩
              · omega
              · have := hO.2.2.2.2.2.1
                omega
            have hwv : IntKind.i64.wrap (v + 1) = v + 1 := by simp only [IntKind.wrap_i64]; omega
            have hwf : IntKind.i64.wrap (y.fails + 1) = y.fails + 1 := by simp only [IntKind.wrap_i64]; omega
            have htq : triV s' = v + 1 := by unfold triV; rw [if_neg (by omega), htr]
            rw [hty] at HTU'
            clear hTr9 hK9 hsent hnsent hv hS' hk4 hy htr hty hyb
            go_wp2_with fail
            refine (askingn_any g gl cap c s' w9 HP9.out (by omega) hopn').mono ?_
            rw [HOPN.out, htq]
            rintro e w10 ⟨rfl, n10, hw10⟩
            have hT10 : IntsAt w10 w4.heap.size 3 trl := by rw [hw10]; exact HTr9.out
            have hP10 : PolAt w10 g gl cap c s' := by rw [hw10]; exact HP9.out.drewN _
            have hK10 : Held w10 w.heap.size 75 (polC0 A n cp c) := by rw [hw10]; exact HK9.out
            have hb10 : Below w.heap.size w w10 := by rw [hw10]; exact below_drewN HB9.out _
            have hfr10 := hT10.frozen k
            have hc10 := hT10.cell HV9.out
            have hlt10 := Held.lt hT10
            obtain ⟨w11, hw11⟩ : ∃ Y : World, w10.setCell ⟨w4.heap.size, k, none⟩ (.int .i64 (v + 1)) = Y := ⟨_, rfl⟩
            have hT11 : IntsAt w11 w4.heap.size 3 (trl.set k (v + 1)) := by rw [← hw11]; exact hT10.set k _
            have hP11 : PolAt w11 g gl cap c s' := by rw [← hw11]; exact hP10.far (by omega) (by omega) _
            have hK11 : Held w11 w.heap.size 75 (polC0 A n cp c) := by rw [← hw11]; exact hK10.far (by show w.heap.size ≠ w4.heap.size; omega) _
            have hb11 : Below w.heap.size w w11 := by rw [← hw11]; exact hb10.setCell (p := ⟨w4.heap.size, k, none⟩) (by show w.heap.size ≤ w4.heap.size; omega) _
            have hc11 : w11.cell? ⟨w4.heap.size, k, none⟩ = some (.int .i64 (v + 1)) := hT11.cell (by rw [List.getElem?_set_self (by rw [hvl]; exact hk1)])
            have HX11 := Lib.hid (And.intro hP11 (And.intro hT11 (And.intro hK11 hb11)))
            clear hT10 hP10 hK10 hb10 hT11 hP11 hK11 hb11 hc9 hfr9 hw10
            go_wp2_with (first | (go_at_call 38; refine (HTU'.out w11 HX11.out.1).mono ?_; rintro e w12 ⟨rfl, rfl⟩) | (go_at_call 42; refine (HFA'.out w11 HX11.out.1).mono ?_; rintro e w12 ⟨rfl, rfl⟩))
            exact ⟨⟨i + 1, s', last', trl.set k (v + 1), by go_num, by omega, HX11.out.1, HI'.out, HS'.out, HB2.out.grow (by omega), HX11.out.2.1, HX11.out.2.2.1, HX11.out.2.2.2⟩, by simp [intOf]; omega⟩
          · obtain rfl : ns = 0 := hnsent rfl
            have HS' := Lib.hid hS'
            clear hTr9 hK9 hsent hnsent hS'
            go_wp2_with fail
            refine (askingn_any g gl cap c s' w9 HP9.out (by omega) hopn').mono ?_
            rintro e w10 ⟨rfl, n10, hw10⟩
            obtain ⟨op', hop'⟩ : ∃ q, s'.opn = q := ⟨_, rfl⟩
            obtain ⟨tr', htr'⟩ : ∃ q, triV s' = q := ⟨_, rfl⟩
            rw [hop', htr']
            clear hop' htr'
            go_wp2_with fail
            go_roundw
            case rel => exact ⟨i + 1, s', last', trl, by go_num, by omega, ⟨HP9.out.drewN _, HI'.out, HS'.out, HB2.out.grow (by omega), HTr9.out, HK9.out, below_drewN HB9.out _⟩⟩
            case measure => simp [intOf]; omega
        · obtain rfl : i = K := by omega
          go_wp2_with fail
          go_ret
          exact ⟨rfl, hbr⟩
  · go_wp2_with fail
    go_ret
    exact ⟨rfl, hb3⟩
end Go.Proofs.YtcipleanckeoaaaDoor
