/- The statements' alive. -/
import Derived.Test.YtcipleanckeoaaaDoorPolM
import Derived.Test.YtcipleanckeoaaaDoorPolH
namespace Go.Proofs.YtcipleanckeoaaaDoor
open Go.RowKit
attribute [local go_sem] Oper.semAt_some
set_option linter.unusedVariables false
set_option linter.unusedSimpArgs false
set_option maxRecDepth 100000
def c0 : PCf := ⟨10, 2, 1, 100, 1⟩
def x0 : PPt := ⟨1, 3, 0, 1, 0, 0, 0⟩
def s0 : PSt := sentP (begunP c0 { newS [x0] with now := 0 } 0 x0) 0
theorem x0_ok : x0.ok := (okPB_iff x0).1 (by decide)
theorem c0_ok : polB c0 [x0] := ⟨by unfold PCf.ok c0; decide, by decide, by decide, fun x hx => by simp at hx; subst hx; exact x0_ok⟩
theorem n0 : nextP c0 s0 = 10 := by decide
theorem n1 : nextP c0 (heardP c0 { s0 with now := 5 }) = 100 := by decide
theorem beg0 : beginP c0 { newS [x0] with now := 0 } = (begunP c0 { newS [x0] with now := 0 } 0 x0, true) := by rfl
theorem out0 : x0.out = [1, 3, 0, 0, 0, 2, 196, 11] := by decide
theorem ra0 : readAnswerP x0.ask [3, 4, 0, 1, 0, 2] = some ⟨3, 0, [], [1, 2]⟩ := by decide
theorem v0 : IntKind.u32.wrap (valX [1, 2] 1) = 65538 := by decide
set_option maxHeartbeats 2000000 in
theorem alive_any (w : World) (hT : LimT w) : Calls Tryd.prog 32 #[] w fun e w' => e = .returned (.bool true) ∧ Below w.heap.size w w' := by
  have HT := Lib.hid hT
  have hgl : 1 < w.heap.size := by obtain ⟨v, hv⟩ : ∃ v, limL[0]? = some v := ⟨_, rfl⟩; exact World.block_lt_of_cell? w _ (hT 0 v hv)
  clear hT
  have HS := Lib.hid (some_any w)
  go_in
  go_wp2_with fail
  refine HS.out.mono ?_
  rintro e w1 ⟨⟨A, rfl, hp⟩, b1⟩
  have HN := Lib.hid (new_any A 1 1 c0 [x0] w1 (HT.out.up b1) hp (fun x hx => by simp at hx; subst hx; exact ⟨rfl, rfl, rfl⟩))
  clear hp
  go_wp2_with fail
  refine HN.out.mono ?_
  rintro e w2 (⟨_, hno, _⟩ | ⟨g, gl, cap, rfl, _, hP, hg, hgl2, b2⟩)
  · exact absurd c0_ok hno
  have HP := Lib.hid hP
  have hz1 := b1.size
  have hne : 1 ≠ g ∧ 1 ≠ gl := ⟨by omega, by omega⟩
  have HNE := Lib.hid hne
  have HST := Lib.hid (step_idle g gl cap c0 c0_ok.1 (newS [x0]) 0 0 x0 w2 ((HT.out.up b1).up b2) hne hP (by decide) (by decide) (by decide) (by decide) (by decide) rfl (by decide) rfl rfl x0_ok beg0 (fun k x hx => by
    cases k with
    | zero => have hx : some x0 = some x := hx
              cases hx; decide
    | succ k => cases hx))
  clear hP hne
  go_wp2_with fail
  refine HST.out.mono ?_
  rintro e w3 ⟨As, ns, cs, rfl, hout, _, hP3, b3⟩
  obtain ⟨rfl, k, x, hk, hx, hsl⟩ := hout rfl
  change PolAt w3 g gl cap c0 s0 at hP3
  have HP3 := Lib.hid hP3
  have HX3 := Lib.hid (show x.out = [1, 3, 0, 0, 0, 2, 196, 11] by
    have : k = 0 := by have : (0 : Int) = k := hk; omega
    subst this
    have hx : some _ = some x := hx
    cases hx
    decide)
  rw [HX3.out] at hsl
  have HSL := Lib.hid hsl
  have HB3 := Lib.hid b3
  have HN4 := Lib.hid (lnext_any g gl cap c0 s0 w3 10 hP3 (by decide) (by decide) (by decide))
  rw [n0] at HN4
  clear hP3 hsl b3 hout
  go_wp2_with fail
  refine HN4.out.mono ?_
  rintro e w4 ⟨rfl, b4⟩
  obtain ⟨w5, hw5⟩ : ∃ Y : World, w4.alloc (.cells #[.int .u8 3, .int .u8 4, .int .u8 0, .int .u8 1, .int .u8 0, .int .u8 2] 5) = Y := ⟨_, rfl⟩
  have b5 : Below w4.heap.size w4 w5 := by rw [← hw5]; exact (Below.refl _ _).alloc (Nat.le_refl _) _
  have hs5 : SlI w5 w5.heap.size .u8 (some ⟨w4.heap.size, 0, none⟩) 6 6 [3, 4, 0, 1, 0, 2] := by rw [← hw5]; exact SlI.of_lit rfl rfl (by omega)
  have b35 : Below w3.heap.size w3 w5 := b4.trans (b5.mono b4.size)
  have hT5 : LimT w5 := (((HT.out.up b1).up b2).bt HB3.out HNE.out).up b35
  have HH := Lib.hid (hear_any g gl cap c0 c0_ok.1 s0 5 1 (some ⟨w4.heap.size, 0, none⟩) 6 6 [3, 4, 0, 1, 0, 2] w5 hT5 HNE.out (HP3.out.up b35) (by decide) (by decide) (by decide) (by decide) (by decide) (by decide) (fun _ => ⟨0, _, rfl, rfl, x0_ok, by decide, by decide⟩) hs5 (fun y hy => by simp at hy; omega) (by decide))
  have HB35 := Lib.hid b35
  have hz5 := b35.size
  clear hs5 b35 hT5 b5 b4
  go_wp2_with fail
  refine HH.out.mono ?_
  rintro e w6 ⟨p, v, is, s', rfl, hP6, b6, _, hr⟩
  obtain ⟨hp, hv, rfl, rfl⟩ := hr 0 _ ⟨3, 0, [], [1, 2]⟩ rfl (by decide) rfl rfl ra0 rfl rfl
  obtain rfl : p = 0 := hp
  obtain rfl : v = 65538 := hv.trans v0
  clear hr hw5 hv
  have hl2 := (HP.out).lt
  have hs6 : SlI w6 w6.heap.size .u8 As 8 cs [1, 3, 0, 0, 0, 2, 196, 11] := (HSL.out.1.up HB35.out).bt b6 (fun a ea => by have := HSL.out.2 a ea; omega)
  obtain ⟨w7, hw7⟩ : ∃ Y : World, w6.alloc (.cells #[.int .i64 0, .int .u32 65538] 95) = Y := ⟨_, rfl⟩
  have b7 : Below w6.heap.size w6 w7 := by rw [← hw7]; exact (Below.refl _ _).alloc (Nat.le_refl _) _
  have hR7 : Held w7 w6.heap.size 95 #[.int .i64 0, .int .u32 65538] := by rw [← hw7]; exact Held.new _ _ _
  have kc := conv_sli (hs6.up b7)
  rw [show strOfNums [1, 3, 0, 0, 0, 2, 196, 11] = ⟨#[1, 3, 0, 0, 0, 2, 196, 11]⟩ by decide] at kc
  have HN7 := Lib.hid (lnext_any g gl cap c0 (heardP c0 { s0 with now := 5 }) w7 100 (hP6.up b7) (by decide) (by decide) (by decide))
  rw [n1] at HN7
  have r0 := hR7.cell 0
  have r1 := hR7.cell 1
  have hlt7 := hR7.lt
  simp only [List.getElem?_toArray, List.getElem?_cons_zero, List.getElem?_cons_succ] at r0 r1
  have HB6 := Lib.hid b6
  have HB7 := Lib.hid b7
  clear hP6 b6 hs6 b7 hR7
  go_wp2_with fail
  refine HN7.out.mono ?_
  rintro e w8 ⟨rfl, b8⟩
  have hz12 := b2.size
  have hB3w : Below w.heap.size w w3 := (b1.trans (b2.mono b1.size)).trans (HB3.out.below (by omega) (by omega) (by omega))
  have hB5 := hB3w.trans (HB35.out.mono hB3w.size)
  have hB6 := hB5.trans (HB6.out.below (n := w.heap.size) (by omega) (by omega) (by have := hB5.size; omega))
  have hB7 := hB6.trans (HB7.out.mono hB6.size)
  have hB8 := hB7.trans (b8.mono hB7.size)
  clear b8 hB3w hB5 hB6 hB7 kc r0 r1
  go_wp2_with fail
  go_ret
  exact ⟨rfl, hB8⟩
end Go.Proofs.YtcipleanckeoaaaDoor
