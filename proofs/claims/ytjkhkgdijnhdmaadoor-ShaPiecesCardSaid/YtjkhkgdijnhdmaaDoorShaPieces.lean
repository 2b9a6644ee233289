/- The law ShaPieces. -/
import Derived.Test.YtjkhkgdijnhdmaaDoorShaCopies
import Derived.Deep.RegionHeld3
import Derived.BigQuiet
namespace Go.Proofs.YtjkhkgdijnhdmaaDoor
open Go.RowKit

set_option maxRecDepth 100000 in
set_option maxHeartbeats 4000000 in
theorem law_pieces (A0 : Option Addr) (c0 : Nat) (xb : List Nat) (A1 : Option Addr) (c1 : Nat) (xc : List Nat) (w : World) (hT : Tab w 0 .u32 firstI) (hT2 : Tab w 1 .u32 kI)
    (hA : SlI w w.heap.size .u8 A0 xb.length c0 (nI xb)) (hB : SlI w w.heap.size .u8 A1 xc.length c1 (nI xc)) (ha : ∀ x ∈ xb, x < 256) (hb : ∀ x ∈ xc, x < 256) :
    Calls Tryd.prog 5 #[.slice A0 xb.length c0, .slice A1 xc.length c1] w fun e w' => e = .returned (.bool true) ∧ Below w.heap.size w w' := by
  have HAL := Lib.hid (alive_own w hT hT2)
  have HT := Lib.hid (fun (W : World) (h : Below w.heap.size w W) => And.intro (hT.up h) (hT2.up h))
  have hf := hT.lt (by decide)
  have hk := hT2.lt (by decide)
  clear hT hT2
  by_cases hs : xb.length ≤ 3000 ∧ xc.length ≤ 300
  · obtain ⟨ls1, ls2⟩ := hs
    have HA := Lib.hid hA
    have HB := Lib.hid hB
    have Ha := Lib.hid ha
    have Hb := Lib.hid hb
    clear hA hB ha hb
    go_in
    go_wp2_with fail
    refine HAL.out.mono ?_
    rintro e w1 ⟨rfl, hb1⟩
    have hz1' := hb1.size
    go_wp2_with fail
    obtain ⟨w2, hw2⟩ : ∃ w2, w1.alloc (.cells (shC st0 (.slice none 0 0) 0 false) 30) = w2 := ⟨_, rfl⟩
    have hb2 : Below w.heap.size w w2 := by rw [← hw2]; exact hb1.alloc hz1' _
    have hS2 : Held w2 w1.heap.size 30 (shC st0 (.slice none 0 0) 0 false) := by rw [← hw2]; exact Held.new _ _ _
    change Code.wp _ _ _ _ (w1.alloc (.cells (shC st0 (.slice none 0 0) 0 false) 30))
    rw [hw2]
    clear hw2 hb1
    generalize w1.heap.size = g at hz1' hS2 ⊢
    go_loopw [7, 8] (fun u i wr => ∃ (m j : Nat) (A : Option Addr) (n c : Nat) (v : Value), m + n = xb.length ∧ j ≤ xc.length ∧ u = .slice A n c ∧ i = .int .i64 j ∧ SlI wr wr.heap.size .u8 A n c (nI (xb.drop m)) ∧ ShaAt wr w.heap.size g v (xb.take m) ∧ Below w.heap.size w wr ∧ (0 < n → ∀ a, A = some a → a.block < w.heap.size)) (fun _ i _ => xc.length - (intOf i).toNat)
    case atStart => exact ⟨0, 0, A0, xb.length, c0, .slice none 0 0, by omega, by omega, rfl, rfl, by rw [List.drop_zero]; exact HA.out.up hb2, by rw [List.take_zero]; exact ShaAt.fresh hS2 hz1', hb2, fun hn a ha => by
      obtain ⟨g', off, e, hb⟩ := HA.out.some_ hn
      rw [ha] at e
      injection e with e
      rw [e]
      exact hb⟩
    case round =>
      obtain ⟨m, j, A, n, c, v, hmn, hj, rfl, rfl, hs, hS, hbw, hlo⟩ := hrel
      by_cases hlt : j < xc.length ∧ 0 < n
      · obtain ⟨hlt1, hlt2⟩ := hlt
        obtain ⟨gc, oc, y, rfl, hgc, hy, hcy⟩ := (HB.out.up hbw).2.2.2.2.at_ (i := j) (by rw [nI_len]; exact hlt1)
        obtain ⟨cut, rfl, hcut⟩ := nI_some hy
        have hc256 := Hb.out cut (List.mem_of_getElem? hcut)
        obtain ⟨hgcb, hCell⟩ : gc < w.heap.size ∧ Hid (∀ W, Below w.heap.size w W → W.cell? ⟨gc, oc + j, none⟩ = some (.int .u8 cut)) := by
          obtain ⟨g1, o1, y1, e1, hg1, hy1, hc1'⟩ := HB.out.2.2.2.2.at_ (i := j) (by rw [nI_len]; exact hlt1)
          injection e1 with e1
          injection e1 with e1 e2
          subst e1 e2
          rw [hy] at hy1
          injection hy1 with hy1
          subst hy1
          exact ⟨hg1, Lib.hid (fun W h => (h.cell (p := ⟨gc, oc + j, none⟩) hg1).trans hc1')⟩
        obtain ⟨t, ht⟩ : ∃ t, min cut n = t := ⟨_, rfl⟩
        have hmin : min (cut : Int) (n : Int) = (t : Int) := by omega
        have htn : t ≤ n := by omega
        have hnc : n ≤ c := hs.2.1
        have htc : t ≤ c := by omega
        have hcm : c ≤ maxLen := hs.2.2.1
        clear ht
        obtain ⟨ga, oa, rfl, _⟩ := hs.some_ (by omega)
        obtain ⟨gb, ob, rfl, _⟩ := HA.out.some_ (by omega)
        have hga : ga < w.heap.size := hlo (by omega) _ rfl
        have htk : ((xb.drop m).take t).length = t := by rw [List.length_take, List.length_drop]; omega
        have sT := hs.take t htn
        rw [← nI_take] at sT
        have HW := Lib.hid (write_in w.heap.size g v (xb.take m) ((xb.drop m).take t) (some ⟨ga, oa, none⟩) c wr hbw.size hf hk (HT.out wr hbw).1 (HT.out wr hbw).2 hS (by rw [htk]; exact sT) (fun _ a ha => by injection ha with ha; rw [← ha]; show ga ≠ g; omega) (fun x hx => Ha.out x (List.mem_of_mem_drop (List.mem_of_mem_take hx))) (by rw [List.length_take, htk]; omega))
        rw [htk, ← List.take_add] at HW
        have hsl := hS.lt
        have hy' := Lib.hid hcy
        have HSS := Lib.hid hs
        have HSV := Lib.hid hS
        clear htk sT hy hcy hs hS hcut
        have e1 : wr.cell? ⟨gc, oc + j, none⟩ = some (.int .u8 cut) := hy'.out
        go_wp2_with fail
        refine ((callsIn_wide (n := 6)).1 HW.out).mono ?_
        rintro e w3 ⟨⟨u3, rfl⟩, v', hS3, hK3, hv3⟩
        have hb3 : Below w.heap.size w w3 := hbw.trans (hK3.below (by have := hbw.size; omega) hz1' (fun k e => (hsl.2 k e).1))
        have hgcw : gc < w.heap.size := hgcb
        have hc3 : w3.cell? ⟨gc, oc + j, none⟩ = some (.int .u8 cut) := hCell.out w3 hb3
        have hgc3 : gc < w3.heap.size := Nat.lt_of_lt_of_le hgcw hb3.size
        have sW := HSS.out
        have hLW : ∀ oo cr, (oo = oa + t ∨ t = n) → cr = c - t → SlI w3 w3.heap.size .u8 (some ⟨ga, oo, none⟩) (n - t) cr (nI (xb.drop (m + t))) := by
          intro oo cr hoo hcr
          subst hcr
          have hup : Below w.heap.size w w3 := hb3
          rcases hoo with rfl | htn'
          · have h1 := sW.drop t htn
            rw [← nI_drop, List.drop_drop] at h1
            exact ⟨h1.1, h1.2.1, h1.2.2.1, h1.2.2.2.1, fun hn => by
              obtain ⟨g5, o5, e5, _, hc5⟩ := h1.2.2.2.2 hn
              injection e5 with e5
              injection e5 with e5 e6
              subst e5 e6
              exact ⟨_, _, rfl, Nat.lt_of_lt_of_le hga hb3.size, fun i x hx => ((hK3.cells (p := ⟨ga, oa + t + i, none⟩) (Nat.lt_of_lt_of_le hga hbw.size) (by show ga ≠ g; omega) (fun e => by have := (hsl.2 _ e.symm).1; simp at this; omega)).trans (hc5 i x hx))⟩⟩
          · have e : xb.drop (m + t) = [] := List.drop_of_length_le (by omega)
            rw [e]
            exact ⟨by show (nI []).length = _; simp [nI]; omega, by omega, by omega, (fun e => by cases e), RdI.nil⟩
        clear HW hK3 hv3 HSS HSV hsl hbw e1 hy'
        obtain ⟨r, hr⟩ : ∃ r, n - t = r := ⟨_, rfl⟩
        obtain ⟨cr, hcr⟩ : ∃ cr, c - t = cr := ⟨_, rfl⟩
        obtain ⟨q, hq⟩ : ∃ q, m + t = q := ⟨_, rfl⟩
        have hq3 : q ≤ xb.length := by omega
        have hrn : r ≤ xb.length := by omega
        have hwq : IntKind.i64.wrap ((xb.length : Int) - (r : Int)) = (xb.length : Int) - (r : Int) := IntWalk.i64_in _ (by omega)
        have h0q : (0 : Int) ≤ (xb.length : Int) - (r : Int) := by omega
        have hq0 : q ≤ c0 := by have := HA.out.2.1; omega
        have hqc : (xb.length : Int) - (r : Int) ≤ (c0 : Int) := by omega
        have hc0m : c0 ≤ maxLen := HA.out.2.2.1
        have K1 := Lib.hid (sum_own w.heap.size g v' (xb.take (m + t)) w3.drew hb3.size hf hk (HT.out w3 hb3).1 (HT.out w3 hb3).2 hS3 (by rw [List.length_take]; omega))
        have K2 := Lib.hid (fun (W : World) (h : Below w3.heap.size w3 W) => by
          have k := of_own (some ⟨gb, ob, none⟩) c0 (xb.take (m + t)) W (HT.out W (hb3.trans (h.mono hb3.size))).1 (HT.out W (hb3.trans (h.mono hb3.size))).2 (by
            have := (HA.out.up (hb3.trans (h.mono hb3.size))).take (m + t) (by omega)
            rw [← nI_take] at this
            rw [List.length_take, show min (m + t) xb.length = m + t by omega]
            exact this) (fun x hx => Ha.out x (List.mem_of_mem_take hx)) (by rw [List.length_take]; omega)
          rw [List.length_take, show min (m + t) xb.length = xb.length - r by omega] at k
          exact k)
        have E1 := neq_digest (xb.take (m + t))
        generalize Sh.digest (xb.take (m + t)) = D1 at K1 K2 E1
        by_cases hz : t = c
        · subst hz
          obtain rfl : n = t := by omega
          obtain rfl : r = 0 := by omega
          obtain rfl : cr = 0 := by omega
          have hL3 := hLW oa 0 (Or.inr rfl) (by omega)
          rw [Nat.sub_self] at hL3
          have K2z := Lib.hid (fun (W : World) (h : Below w3.heap.size w3 W) => by have k := K2.out W h; rw [Nat.sub_zero] at k; exact k)
          have hlc : (xb.length : Int) ≤ (c0 : Int) := by omega
          have hlc2 : xb.length ≤ c0 := by omega
          have hw0 : IntKind.i64.wrap (xb.length : Int) = (xb.length : Int) := IntWalk.i64_in _ (by omega)
          have h0l : (0 : Int) ≤ (xb.length : Int) := by omega
          clear hr hcr hwq h0q hqc hrn
          by_cases h4 : cut % 4 = 0
          · have g4 : (((cut : Nat) : Int) % 4 == 0) = true := by simp; omega
            have g5 : (((cut : Nat) : Int).tmod 4 == 0) = true := by rw [Int.tmod_eq_emod_of_nonneg (by omega)]; exact g4
            go_wp2
            go_region_held3 (fun X => X.cell? ⟨gc, oc + j, none⟩ = some (.int .u8 cut))
              (first
                | exact hc3
                | exact c4
                | exact c5)
              (first
                | (go_at_call 15; (with_reducible refine K1.out.mono ?_); rintro e w4 ⟨rfl, hb4'⟩; have hb4 : Below w3.heap.size w3 w4 := ⟨hb4'.os, hb4'.tape, hb4'.output, hb4'.size, hb4'.block⟩; have c4 := (hb4.cell (p := ⟨gc, oc + j, none⟩) hgc3).trans hc3)
                | (go_at_call 19; (with_reducible refine (K2z.out w4 hb4).mono ?_); rintro e w5 ⟨rfl, hb5⟩; have c5 := (hb5.cell (p := ⟨gc, oc + j, none⟩) (Nat.lt_of_lt_of_le hgc3 hb4.size)).trans c4))
            have hb35 := hb4.trans (hb5.mono hb4.size)
            go_wp2
            go_roundw
            case rel => exact ⟨m + n, j + 1, _, 0, 0, v', by omega, by omega, rfl, by go_num, hL3.up hb35, hS3.below hb35, hb3.trans (hb35.mono hb3.size), fun _ a ha => by injection ha with ha; rw [← ha]; exact hga⟩
            case measure => simp [intOf]; omega
          · have g4 : (((cut : Nat) : Int) % 4 == 0) = false := by simp; omega
            have g5 : (((cut : Nat) : Int).tmod 4 == 0) = false := by rw [Int.tmod_eq_emod_of_nonneg (by omega)]; exact g4
            go_wp2
            go_quiet (fail)
            go_wp2
            go_roundw
            case rel => exact ⟨m + n, j + 1, _, 0, 0, v', by omega, by omega, rfl, by go_num, hL3, hS3, below_drewN hb3 _, fun _ a ha => by injection ha with ha; rw [← ha]; exact hga⟩
            case measure => simp [intOf]; omega

        · have hL3 := hLW (oa + t) cr (Or.inl rfl) hcr.symm
          rw [hr] at hL3
          have hz' : ¬ c = t := fun h => hz h.symm
          by_cases h4 : cut % 4 = 0
          · have g4 : (((cut : Nat) : Int) % 4 == 0) = true := by simp; omega
            have g5 : (((cut : Nat) : Int).tmod 4 == 0) = true := by rw [Int.tmod_eq_emod_of_nonneg (by omega)]; exact g4
            go_wp2
            go_region_held3 (fun X => X.cell? ⟨gc, oc + j, none⟩ = some (.int .u8 cut))
              (first
                | exact hc3
                | exact c4
                | exact c5)
              (first
                | (go_at_call 15; (with_reducible refine K1.out.mono ?_); rintro e w4 ⟨rfl, hb4'⟩; have hb4 : Below w3.heap.size w3 w4 := ⟨hb4'.os, hb4'.tape, hb4'.output, hb4'.size, hb4'.block⟩; have c4 := (hb4.cell (p := ⟨gc, oc + j, none⟩) hgc3).trans hc3)
                | (go_at_call 19; (with_reducible refine (K2.out w4 hb4).mono ?_); rintro e w5 ⟨rfl, hb5⟩; have c5 := (hb5.cell (p := ⟨gc, oc + j, none⟩) (Nat.lt_of_lt_of_le hgc3 hb4.size)).trans c4))
            have hb35 := hb4.trans (hb5.mono hb4.size)
            go_wp2
            go_roundw
            case rel => exact ⟨m + t, j + 1, _, r, cr, v', by omega, by omega, rfl, by go_num, hL3.up hb35, hS3.below hb35, hb3.trans (hb35.mono hb3.size), fun _ a ha => by injection ha with ha; rw [← ha]; exact hga⟩
            case measure => simp [intOf]; omega
          · have g4 : (((cut : Nat) : Int) % 4 == 0) = false := by simp; omega
            have g5 : (((cut : Nat) : Int).tmod 4 == 0) = false := by rw [Int.tmod_eq_emod_of_nonneg (by omega)]; exact g4
            go_wp2
            go_quiet (fail)
            go_wp2
            go_roundw
            case rel => exact ⟨m + t, j + 1, _, r, cr, v', by omega, by omega, rfl, by go_num, hL3, hS3, below_drewN hb3 _, fun _ a ha => by injection ha with ha; rw [← ha]; exact hga⟩
            case measure => simp [intOf]; omega
      · have hcase : (j < xc.length ∧ ¬ 0 < n) ∨ ¬ j < xc.length := by omega
        have hdl : (xb.drop m).length = n := by rw [List.length_drop]; omega
        have HW := Lib.hid (write_in w.heap.size g v (xb.take m) (xb.drop m) A c wr hbw.size hf hk (HT.out wr hbw).1 (HT.out wr hbw).2 hS (by rw [hdl]; exact hs) (fun hn a ha => by have := hlo (by rw [hdl] at hn; exact hn) a ha; omega) (fun x hx => Ha.out x (List.mem_of_mem_drop hx)) (by rw [List.length_take, hdl]; omega))
        rw [hdl, List.take_append_drop] at HW
        have hsl := hS.lt
        clear hS hs hdl
        have E1 := eql_digest xb
        have HK2 := Lib.hid (fun (W : World) (h : Below w.heap.size w W) => of_own A0 c0 xb W (HT.out W h).1 (HT.out W h).2 (HA.out.up h) Ha.out (by omega))
        rcases hcase with ⟨h1, h2⟩ | h1
        all_goals
          go_wp2_with fail
          refine ((callsIn_wide (n := 6)).1 HW.out).mono ?_
          rintro e w3 ⟨⟨u3, rfl⟩, v', hS3, hK3, hv3⟩
          have hb3 : Below w.heap.size w w3 := hbw.trans (hK3.below (by have := hbw.size; omega) hz1' (fun k e => (hsl.2 k e).1))
          have K1 := Lib.hid (sum_own w.heap.size g v' xb w3 hb3.size hf hk (HT.out w3 hb3).1 (HT.out w3 hb3).2 hS3 (by omega))
          have HS3 := Lib.hid hS3
          clear hK3 hv3 hS3 HW
          generalize Sh.digest xb = D1 at K1 HK2 E1
          go_wp2_with fail
          refine K1.out.mono ?_
          rintro e w4 ⟨rfl, hb4⟩
          have hb4' := hb3.trans (hb4.mono hb3.size)
          go_wp2_with fail
          refine (HK2.out w4 hb4').mono ?_
          rintro e w5 ⟨rfl, hb5⟩
          have hb5' := hb4'.trans (hb5.mono hb4'.size)
          have hS5 := (HS3.out.below hb4).below hb5
          go_wp2_with fail
          refine (len_own w5 _ g v' xb hS5).mono ?_
          rintro e w6 ⟨rfl, rfl⟩
          go_wp2
          go_ret
          exact ⟨retb (by simp), hb5'⟩
  · have hno : 3000 < xb.length ∨ 300 < xc.length := by omega
    by_cases h1 : 3000 < xb.length
    · go_in
      go_wp2_with fail
      refine HAL.out.mono ?_
      rintro e w1 ⟨rfl, hb1⟩
      go_wp2
      go_ret
      exact ⟨rfl, hb1⟩
    · go_in
      go_wp2_with fail
      refine HAL.out.mono ?_
      rintro e w1 ⟨rfl, hb1⟩
      go_wp2
      go_ret
      exact ⟨rfl, hb1⟩
end Go.Proofs.YtjkhkgdijnhdmaaDoor
