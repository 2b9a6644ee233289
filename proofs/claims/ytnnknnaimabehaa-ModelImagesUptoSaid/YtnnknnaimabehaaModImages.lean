/- Whether blocks may be, their image, and whether two lists are the same, are the document's: the law, walked. -/
import Derived.Test.YtnnknnaimabehaaModRefSame
import Derived.Test.YtnnknnaimabehaaModRefImg
import Derived.Test.YtnnknnaimabehaaModCheck
import Derived.Test.YtnnknnaimabehaaModRow
import Derived.Test.YtnnknnaimabehaaRegsLaws
namespace Go.Proofs.Ytnnknnaimabehaa
open Go.RowKit
set_option linter.unusedVariables false
set_option maxRecDepth 100000
/-- Two slices that read the same, or are nothing. -/
theorem img_both {w w1 w2 : World} {o : Option (List Int)} {A1 A2 : Option Addr} {n1 n2 c1 c2 : Nat} (h1 : ∀ l, o = some l → SlI w1 w1.heap.size .u16 A1 n1 c1 l) (k1 : o = none → A1 = none ∧ n1 = 0 ∧ c1 = 0) (hb : Below w1.heap.size w1 w2) (h2 : ∀ l, o = some l → SlI w2 w2.heap.size .u16 A2 n2 c2 l) (k2 : o = none → A2 = none ∧ n2 = 0 ∧ c2 = 0) :
    ∃ X, SlI w2 w2.heap.size .u16 A1 n1 c1 X ∧ SlI w2 w2.heap.size .u16 A2 n2 c2 X := by
  cases o with
  | none =>
    obtain ⟨rfl, rfl, rfl⟩ := k1 rfl
    obtain ⟨rfl, rfl, rfl⟩ := k2 rfl
    exact ⟨[], SlI.nil _ _ _, SlI.nil _ _ _⟩
  | some X => exact ⟨X, (h1 X rfl).up hb, h2 X rfl⟩
set_option maxHeartbeats 4000000 in
theorem law_images (A : Option Addr) (n c : Nat) (al : List BlkP) (A' : Option Addr) (n' c' : Nat) (bs : List BlkP) (w : World) (hA : BkI w w.heap.size A n c al) (hB : BkI w w.heap.size A' n' c' bs) (hs : partsN al ≤ 1048576) (hs' : partsN bs ≤ 1048576) :
    Calls Try.prog 5 #[.slice A n c, .slice A' n' c'] w fun e w' => e = .returned (.bool true) ∧ Below w.heap.size w w' := by
  have hl := hA.1
  have hnp := partsN_len al
  have HA := Lib.hid (fun (X : World) (h : Below w.heap.size w X) => hA.up h)
  have HB := Lib.hid (fun (X : World) (h : Below w.heap.size w X) => hB.up h)
  have HL := Lib.hid hl
  have HNP := Lib.hid hnp
  have HS := Lib.hid (And.intro hs hs')
  clear hA hB hl hnp hs hs'
  go_in
  go_wp2_with fail
  refine (mgreat_any A n c al w (HA.out w (Below.refl _ _)) HS.out.1).mono ?_
  rintro e w2 ⟨rfl, m2, hw2⟩
  have hb2 : Below w.heap.size w w2 := by rw [hw2]; exact below_drewN (Below.refl _ _) _
  clear hw2
  by_cases h3 : 3000 < partsN al
  · rw [if_pos h3]
    clear h3
    go_wp2_with fail
    go_ret
    exact ⟨rfl, hb2⟩
  rw [if_neg h3]
  have hn3 : n ≤ 3000 := by have h1 := HL.out; have h2 := HNP.out; omega
  clear h3
  go_wp2_with fail
  refine (mgreat_any A' n' c' bs w2 (HB.out w2 hb2) HS.out.2).mono ?_
  rintro e w3 ⟨rfl, m3, hw3⟩
  have hb3 : Below w.heap.size w w3 := by rw [hw3]; exact below_drewN hb2 _
  clear hw3
  by_cases h3 : 3000 < partsN bs
  · rw [if_pos h3]
    clear h3
    go_wp2_with fail
    go_ret
    exact ⟨rfl, hb3⟩
  rw [if_neg h3]
  clear h3
  have HI1 := Lib.hid (image_ownN A n c al (by omega) w3 (HA.out w3 hb3))
  have HI2 := Lib.hid (fun (X : World) (h : Below w.heap.size w X) => rimage_anyN A n c al (by omega) X (HA.out X h))
  obtain ⟨o, ho⟩ : ∃ o, imageP al = o := ⟨_, rfl⟩
  rw [ho] at HI1 HI2
  clear ho
  go_wp2_with fail
  refine HI1.out.mono ?_
  rintro e w4 ⟨A4, n4, c4, er, rfl, her, hs4, hb4, hk4⟩
  have hb4w := hb3.trans (hb4.mono hb3.size)
  have HS4 := Lib.hid (And.intro hs4 hk4)
  have HER := Lib.hid her
  clear hs4 hk4 her
  go_wp2_with fail
  refine (HI2.out w4 hb4w).mono ?_
  rintro e w5 ⟨A5, n5, c5, er', rfl, her', hs5, hb5, hk5⟩
  have hb5w := hb4w.trans (hb5.mono hb4w.size)
  obtain ⟨X, hX4, hX5⟩ := img_both (w := w) HS4.out.1 HS4.out.2 hb5 hs5 hk5
  rw [← HER.out] at her'
  subst her'
  have HX := Lib.hid (fun (W : World) (h : Below w5.heap.size w5 W) => And.intro (hX4.up h) (hX5.up h))
  clear hs5 hk5 hX4 hX5 HER HS4
  go_wp2_with fail
  go_loopw [9] (fun s9 wx => ∃ (i : Nat), i ≤ n ∧ s9 = .int .i64 i ∧ Below w5.heap.size w5 wx) (fun s9 _ => n - (intOf s9).toNat)
  case atStart => exact ⟨0, Nat.zero_le _, rfl, Below.refl _ _⟩
  case round =>
    obtain ⟨i, hi, rfl, hbr⟩ := hrel
    have hbrw := hb5w.trans (hbr.mono hb5w.size)
    by_cases hlt : i < n
    · obtain ⟨⟨id, ps, vs⟩, hb⟩ : ∃ b, al[i]? = some b := ⟨_, List.getElem?_eq_getElem (by rw [HL.out]; exact hlt)⟩
      obtain ⟨g, off, rfl, hg, hc⟩ := (HA.out wr hbrw).2.2.2.2 (by omega)
      obtain ⟨Ap, np, cp, Av, nv, cv, c0, c1, c2, hPt, hVl, hvi⟩ := hc i _ hb
      dsimp only at c0 hPt hVl hvi
      have HP := Lib.hid (fun (X : World) (h : Below wr.heap.size wr X) => hPt.up h)
      have HV := Lib.hid (fun (X : World) (h : Below wr.heap.size wr X) => hVl.up h)
      have HC : Hid (∀ (X : World), Below wr.heap.size wr X → X.cell? ⟨g, off + i * 3, none⟩ = some (.int .i64 id) ∧ X.cell? ⟨g, off + i * 3 + 1, none⟩ = some (.slice Ap np cp) ∧ X.cell? ⟨g, off + i * 3 + 2, none⟩ = some (.slice Av nv cv)) := Lib.hid (fun X h => ⟨(h.cell (p := ⟨g, off + i * 3, none⟩) hg).trans c0, (h.cell (p := ⟨g, off + i * 3 + 1, none⟩) hg).trans c1, (h.cell (p := ⟨g, off + i * 3 + 2, none⟩) hg).trans c2⟩)
      have hnn := sumP_in ps
      have HLN := Lib.hid (mlen_any id Ap np cp ps wr hPt)
      have HRW := Lib.hid (fun (X : World) (h : Below wr.heap.size wr X) => rwords_blk id Ap np cp Av nv cv ps vs hvi X (HP.out X h) (HV.out X h))
      have HCK := Lib.hid (fun (X : World) (h : Below wr.heap.size wr X) => check_blk id Ap np cp Av nv cv ps vs hvi X (HP.out X h) (HV.out X h))
      have HRL := Lib.hid (fun (X : World) (h : Below wr.heap.size wr X) => rlen_any id Ap np cp ps X (HP.out X h))
      have hltI : (i : Int) < (n : Int) := by omega
      obtain ⟨ob, hob⟩ : ∃ o, blkW id ps vs = o := ⟨_, rfl⟩
      rw [hob] at HRW HCK
      unfold WPost at HRW
      clear hc hPt hVl hvi hb hob
      unfold lenP at HLN
      have hS0 : defB id ps = true → 0 ≤ sumP ps := fun h => by
        unfold defB at h
        rw [Bool.and_eq_true] at h
        exact (hnn h.2).1
      obtain ⟨S, hS⟩ : ∃ S, sumP ps = S := ⟨_, rfl⟩
      rw [hS] at HLN hS0
      simp only [hS] at HRL
      clear hnn hS
      have hmx0 : max (-1 : Int) 0 = 0 := by decide
      cases ob
      all_goals cases hdf : defB id ps
      all_goals
        rw [hdf] at HLN hS0
        simp only [hdf] at HRL
        simp only [Bool.false_eq_true, if_true, if_false, false_implies, true_implies, Option.isSome_none, Option.isSome_some] at HLN HRL HRW HCK hS0
        have hmx : 0 ≤ S → max S 0 = S := fun h => by omega
        try (have hmx := hmx hS0)
        clear hdf
        go_wp2_with fail
        refine HLN.out.mono ?_
        rintro e w6 ⟨rfl, hb6⟩
        clear c0 c1 c2
        obtain ⟨c0, c1, c2⟩ := HC.out w6 hb6
        go_wp2_with fail
        refine (HRW.out w6 hb6).mono ?_
        rintro e w7 ⟨A7, n7, c7, rfl, _, hb7⟩
        have hb7r := hb6.trans (hb7.mono hb6.size)
        clear c0 c1 c2
        obtain ⟨c0, c1, c2⟩ := HC.out w7 hb7r
        go_wp2_with fail
        refine (HCK.out w7 hb7r).mono ?_
        rintro e w8 ⟨rfl, hb8⟩
        have hb8r := hb7r.trans (hb8.mono hb7r.size)
        clear c0 c1 c2
        obtain ⟨c0, c1, c2⟩ := HC.out w8 hb8r
        go_wp2_with fail
        refine (HRL.out w8 hb8r).mono ?_
        rintro e w9 ⟨rfl, hb9⟩
        have hb9r := hb8r.trans (hb9.mono hb8r.size)
        have hb9x := hbr.trans (hb9r.mono hbr.size)
        clear c0 c1 c2
        go_wp2_with fail
        go_roundw
        case rel => exact ⟨i + 1, by omega, by go_num, hb9x⟩
        case measure => simp [intOf]; omega
    · obtain rfl : i = n := by omega
      have HSL := Lib.hid (same_sl A4 A5 n4 n5 c4 c5 X X wr (HX.out wr hbr).1 (HX.out wr hbr).2)
      rw [decide_eq_true rfl] at HSL
      go_wp2_with fail
      refine HSL.out.mono ?_
      rintro e w6 ⟨rfl, q6, hw6⟩
      have hb6 : Below w.heap.size w w6 := by rw [hw6]; exact below_drewN hbrw _
      clear hw6
      have HM1 := Lib.hid (msame_any A A' i n' c c' al bs w6 (HA.out w6 hb6) (HB.out w6 hb6))
      have HM2 := Lib.hid (fun (X : World) (h : Below w.heap.size w X) => rsame_any A A' i n' c c' al bs X (HA.out X h) (HB.out X h))
      have HM3 := Lib.hid (fun (X : World) (h : Below w.heap.size w X) => msame_any A A i i c c al al X (HA.out X h) (HA.out X h))
      obtain ⟨q, hq⟩ : ∃ q, decide (al = bs) = q := ⟨_, rfl⟩
      rw [hq] at HM1
      simp only [hq] at HM2
      simp only [decide_true] at HM3
      clear hq
      go_wp2_with fail
      refine HM1.out.mono ?_
      rintro e w7 ⟨rfl, hb7⟩
      have hb7w := hb6.trans (hb7.mono hb6.size)
      go_wp2_with fail
      refine (HM2.out w7 hb7w).mono ?_
      rintro e w8 ⟨rfl, hb8⟩
      have hb8w := hb7w.trans (hb8.mono hb7w.size)
      have hqq : (q == q) = true := by simp
      go_wp2_with fail
      refine (HM3.out w8 hb8w).mono ?_
      rintro e w9 ⟨rfl, hb9⟩
      go_wp2_with fail
      go_ret
      exact ⟨rfl, hb8w.trans (hb9.mono hb8w.size)⟩
end Go.Proofs.Ytnnknnaimabehaa
