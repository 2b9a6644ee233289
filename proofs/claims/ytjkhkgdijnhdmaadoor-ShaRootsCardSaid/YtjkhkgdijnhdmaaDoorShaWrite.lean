/- (*Sha).Write. -/
import Derived.Test.YtjkhkgdijnhdmaaDoorShaKeep
import Derived.Deep.AppendLies
import Derived.Shelf.Abstract
namespace Go.Proofs.YtjkhkgdijnhdmaaDoor
open Go.RowKit Go.Shelf
attribute [local go_sem] Oper.semAt_some

set_option maxRecDepth 100000 in
set_option maxHeartbeats 4000000 in
theorem write_in (B g : Nat) (v : Value) (all bs : List Nat) (A : Option Addr) (cap : Nat) (w : World) (hB : B ≤ w.heap.size) (_hf : 0 < B) (hk : 1 < B)
    (hT : Tab w 0 .u32 firstI) (hT2 : Tab w 1 .u32 kI) (hS : ShaAt w B g v all) (hR : SlI w w.heap.size .u8 A bs.length cap (nI bs)) (hAg : 0 < bs.length → ∀ a, A = some a → a.block ≠ g) (hbs : ∀ x ∈ bs, x < 256) (hmax : all.length + bs.length ≤ 1000000) :
    CallsIn Fence.wide 6 Tryd.prog 14 #[.pointer (some ⟨g, 0, none⟩), .slice A bs.length cap] w fun e w' => (∃ u, e = .returned u) ∧ ∃ v', ShaAt w' B g v' (all ++ bs) ∧ KeepW w w' g v ∧ ∀ b, v'.ownBlock = some b → w.heap.size ≤ b := by
  obtain ⟨s, bg, hX, hst, hBg, hown, hal, hab⟩ := hS
  obtain ⟨i0, hi, hz0, hz1, hz2⟩ := info_parts infoB
  have hgw := hX.lt
  have hTab : ∀ X, KeepW w X g v → Tab X 1 .u32 kI := fun X hX i hi' => (hX.cells (p := ⟨1, i, none⟩) (by show 1 < _; omega) (by show 1 ≠ g; omega) (fun e => by have := (hown.lt _ e.symm).1; simp at this; omega)).trans (hT2 i hi')
  have HTab := Lib.hid hTab
  clear hTab
  have HR := Lib.hid hR
  have HT := Lib.hid hT
  obtain ⟨L4, hL4⟩ : ∃ L4, L4 = Sh.restOf all ++ bs := ⟨_, rfl⟩
  have HL4 := Lib.hid hL4
  have HC := Lib.hid (show (nI (Sh.restOf all)).map (Value.int .u8) ++ (nI bs).map (Value.int .u8) = (nI L4).map (Value.int .u8) by rw [hL4]; simp [nI])
  have HN4 := Lib.hid (show (Sh.restOf all).length + bs.length = L4.length by rw [hL4, List.length_append])
  have hrl := Sh.restOf_len all
  have hlm : L4.length ≤ 1000063 := by rw [hL4, List.length_append]; omega
  have HLB := Lib.hid (show ∀ x ∈ L4, x < 256 by
    rw [hL4]; intro x hx
    rcases List.mem_append.1 hx with hx | hx
    · exact hab x (List.mem_of_mem_drop hx)
    · exact hbs x hx)
  clear hL4
  clear hR hT hT2
  refine callsIn_of_wp_marks Tryd.func14 rfl trivial ?_ rfl
  simp only [Tryd.ntmps14, List.size_toArray, List.length_cons, List.length_nil, Nat.reduceAdd, Nat.reduceSub, Array.replicate_succ, Array.replicate_zero, List.push_toArray, List.append_toArray, List.nil_append, List.cons_append]
  refine wpIn_wide.2 ?_
  go_wp2_with fail
  obtain ⟨w1, hw1⟩ : ∃ w1, w.alloc (.cells #[.pointer (some ⟨g, 0, none⟩)] 24) = w1 := ⟨_, rfl⟩
  rw [hw1]
  have hz1' : w1.heap.size = w.heap.size + 1 := by rw [← hw1]; simp
  have hK1 : KeepW w w1 g v := by rw [← hw1]; exact (KeepW.refl _ _ _).alloc _
  have hP1 : Held w1 w.heap.size 24 #[.pointer (some ⟨g, 0, none⟩)] := by rw [← hw1]; exact Held.new _ _ _
  have hX1 : Held w1 g 30 (shC s v all.length bg) := by rw [← hw1]; exact hX.alloc _
  have hO1 : w1.ownsRow B 5 1 v (Sh.restOf all).length ((nI (Sh.restOf all)).map (Value.int .u8)) := by rw [← hw1]; exact hown.kept (World.grownBy_alloc _ _ none) (by cases v.ownBlock <;> simp)
  have hTf1 : Tab w1 0 .u32 firstI := by rw [← hw1]; exact HT.out.alloc _
  have hb1 : ∀ j, j < w.heap.size → w1.heap[j]? = w.heap[j]? := fun j hj => by rw [← hw1]; exact Below.heap_alloc _ _ _ hj
  clear hw1
  go_at_call 37
  refine (begin_any g s bg all v all.length w1 hTf1 (by omega) hX1 hst).mono ?_
  rintro e w2 ⟨⟨u, rfl⟩, hX2, hg2⟩
  obtain ⟨w3, hw3⟩ : ∃ w3, w2.setCell ⟨g, 9, none⟩ (.int .u64 ((all.length : Int) + (bs.length : Int))) = w3 := ⟨_, rfl⟩
  have hg3 : w1.grownBy w3 (some g) := by rw [← hw3]; exact grownBy_set hg2 rfl _
  have hX3 : Held w3 g 30 (shC (Sh.stateOf all) v (all ++ bs).length true) := by
    have := hX2.set 9 (.int .u64 ((all.length : Int) + (bs.length : Int)))
    rw [hw3] at this
    rw [List.length_append]
    exact this
  have hK3 : KeepW w w3 g v := hK1.grown hg3 (fun r e => by injection e with e; exact Or.inl e.symm)
  have hP3 : Held w3 w.heap.size 24 #[.pointer (some ⟨g, 0, none⟩)] := (hg3.block _ hP1.lt (by simp; omega)).trans hP1
  have hO3 : w3.ownsRow B 5 1 v (Sh.restOf all).length ((nI (Sh.restOf all)).map (Value.int .u8)) := hO1.kept hg3 (.inr (fun e => hX1.not_row (by decide) hO1 e.symm))
  have hS3 := hg3.size
  have hR3 : SlI w3 w3.heap.size .u8 A bs.length cap (nI bs) := HR.out.keepA (by omega) fun hn a ha hlt => (hg3.block _ (by omega) (by simpa using hAg (by rw [nI_len] at hn; exact hn) a ha)).trans (hb1 _ hlt)
  have hP2 : Held w2 w.heap.size 24 #[.pointer (some ⟨g, 0, none⟩)] := (hg2.block _ hP1.lt (by simp; omega)).trans hP1
  have n1 : w2.cell? ⟨g, 9, none⟩ = some (.int .u64 (all.length : Nat)) := hX2.cell 9
  have n2 : w2.cell? ⟨g, 8, none⟩ = some v := hX2.cell 8
  have n3 := hX2.frozen 9
  have n4 : w2.cell? ⟨w.heap.size, 0, none⟩ = some (.pointer (some ⟨g, 0, none⟩)) := hP2.cell 0
  have m4 : w3.cell? ⟨w.heap.size, 0, none⟩ = some (.pointer (some ⟨g, 0, none⟩)) := hP3.cell 0
  have m8 : w3.cell? ⟨g, 8, none⟩ = some v := hX3.cell 8
  clear hP1 hX1 hO1 hTf1 hX hown hst hX2 hg2 hK1 hP2
  have HRL := Lib.hid hrl
  have HRM := Lib.hid (show (Sh.restOf all).length + bs.length ≤ maxLen ∧ ((Sh.restOf all).length + bs.length) * 1 ≤ 140737488355328 ∧ B ≤ w3.heap.size by unfold maxLen; omega)
  clear hrl
  go_wp2_with (first
    | ((with_reducible refine at_append ?_); refine wpList_append_sl w3 rfl (.tmp 24) (.tmp 25) 27 rfl B 5 i0 (.int .u8 0) 1 Tryd.underlying27 hi hz0 hz1 hz2 rfl v (Sh.restOf all).length _ rfl hO3 w3.heap.size .u8 A bs.length cap (nI bs) rfl hR3 HRM.out.1 HRM.out.2.1 HRM.out.2.2 ?_; intro v1 w4 hO4 hg4 hv1; rw [HC.out, HN4.out] at hO4; obtain ⟨A1, c1, rfl, hs4⟩ := SlI.of_own hO4)
    | (go_at_call 38; refine ((callsIn_wide (n := 5)).1 (blocks_in Fence.wide 5 trivial rfl _ _ _ _)).mono ?_; rintro e w' ⟨rfl, rfl⟩))
  have hsz4 := hg4.size
  obtain ⟨W0, hW0⟩ : ∃ W0, (w4.alloc (.cells #[.slice A1 L4.length c1] 27)).alloc (.cells #[.slice A1 L4.length c1] 27) = W0 := ⟨_, rfl⟩
  rw [hW0]
  have hS0 : W0.heap.size = w4.heap.size + 2 := by rw [← hW0]; simp
  have hX4 : Held w4 g 30 (shC (Sh.stateOf all) v (all ++ bs).length true) := hX3.kept hg4 (hX3.not_row (by decide) hO3)
  have hP4 : Held w4 w.heap.size 24 #[.pointer (some ⟨g, 0, none⟩)] := hP3.kept hg4 (hP3.not_row (by decide) hO3)
  have hX0 : Held W0 g 30 (shC (Sh.stateOf all) v (all ++ bs).length true) := by rw [← hW0]; exact (hX4.alloc _).alloc _
  have hP0 : Held W0 w.heap.size 24 #[.pointer (some ⟨g, 0, none⟩)] := by rw [← hW0]; exact (hP4.alloc _).alloc _
  have hL0 : Held W0 w4.heap.size 27 #[.slice A1 L4.length c1] := by rw [← hW0]; exact (Held.new w4 _ _).alloc _
  have hQ0 : Held W0 (w4.heap.size + 1) 27 #[.slice A1 L4.length c1] := by
    rw [← hW0]; have := Held.new (w4.alloc (.cells #[.slice A1 L4.length c1] 27)) 27 #[.slice A1 L4.length c1]; rw [World.size_alloc] at this; exact this
  have hO0 : W0.ownsRow B 5 1 (.slice A1 L4.length c1) L4.length ((nI L4).map (Value.int .u8)) := by
    rw [← hW0]; exact own_same hO4 fun b hb => ((Below.heap_alloc _ _ _ (by have := (hO4.lt b hb).2; simp; omega)).trans (Below.heap_alloc _ _ _ (hO4.lt b hb).2))
  have hK4 : KeepW w W0 g v := by
    rw [← hW0]
    exact ((hK3.grown hg4 (fun r e => .inr (.inl e.symm))).alloc _).alloc _
  have hg0 : ∀ b, (Value.slice A1 L4.length c1).ownBlock = some b → b < w4.heap.size ∧ b ≠ g := fun b hb => ⟨(hO4.lt b hb).2, fun e => hX4.not_row (by decide) hO4 (by rw [hb, e])⟩
  have hgl : g < w4.heap.size := hX4.lt
  have hpl : w.heap.size < w4.heap.size := hP4.lt
  obtain ⟨ga, hga⟩ : ∃ ga, 64 ≤ L4.length → A1 = some ⟨ga, 0, none⟩ := by
    by_cases h : 64 ≤ L4.length
    · obtain ⟨ga, c, e, _⟩ := own_pos hO4 (by omega)
      injection e with e
      exact ⟨ga, fun _ => e⟩
    · exact ⟨0, fun h' => absurd h' h⟩
  have hcl := hs4.2.1
  have hcm := hs4.2.2.1
  clear hW0 hX4 hP4 hO4 hs4 hX3 hK3 hP3 hO3 hS3 hR3 n1 n2 n3 n4 m4 m8 hg3 hg4 hw3 hb1 hv1
  refine wpIn_wide.1 (wpIn_range_w (n := 6) rfl (by omega) (gf := 54) (lb := #[.pointer (some ⟨w4.heap.size + 1, 0, none⟩)]) rfl trivial (enters_of Tryd.func54 (by kernel_rfl) rfl)
    (blocks_seq Fence.wide 5 trivial rfl (by omega) (w4.heap.size + 1) ga 0 A1 L4.length c1 hga hcl hcm W0 hQ0)
    (fun h k => k.trans h) (fun W l o o' hl ho h1 h2 => World.putObj_heap_other (by omega))
    (fun X X' hx k o hk ho hc => by
      rcases hx with rfl | ⟨v, rfl⟩
      · exact ho
      · exact (KeepsOthers.setCell X _ v).same k o ho hc)
    (fun _ => rfl)
    (LoopI w B g w.heap.size w4.heap.size v A1 ga c1 (all ++ bs).length (Sh.stateOf all) L4)
    (fun _ _ _ => False)
    ?own (fun _ _ _ _ _ hs _ _ => hs) ?oiter (fun _ _ _ _ _ hs => hs) (fun _ _ _ => trivial)
    ⟨hX0, hP0, by rw [curV_zero]; exact hL0, hO0, hK4, by omega⟩
    (fun k => { tmps := #[.pointer (some ⟨g, 0, none⟩), .slice A bs.length cap, .pointer (some ⟨w.heap.size, 0, none⟩), undef, .pointer (some ⟨w4.heap.size, 0, none⟩), .slice (some ⟨ga, 64 * k, none⟩) 64 (c1 - 64 * k), .slice (some ⟨ga, behO 0 c1 k, none⟩) (L4.length - 64 * k - 64) (c1 - 64 * k - 64),
      .pointer (some ⟨g, 0, none⟩), .bool false, .pointer (some ⟨g, 0, none⟩), u, .pointer (some ⟨g, 0, none⟩), .pointer (some ⟨g, 0, none⟩), .pointer (some ⟨g, 9, none⟩), .int .u64 all.length, .slice A bs.length cap, .int .i64 bs.length, .int .u64 bs.length, .int .u64 ((all.length : Int) + bs.length),
      .pointer (some ⟨g, 0, none⟩), .pointer (some ⟨g, 9, none⟩), .pointer (some ⟨g, 0, none⟩), .pointer (some ⟨g, 0, none⟩), .pointer (some ⟨g, 8, none⟩), v, .slice A bs.length cap, .slice A1 L4.length c1, .slice A1 L4.length c1, .func (.func 54) #[] #[.pointer (some ⟨w4.heap.size + 1, 0, none⟩)],
      .slice (some ⟨ga, 64 * k, none⟩) 64 (c1 - 64 * k), .slice (some ⟨ga, behO 0 c1 k, none⟩) (L4.length - 64 * k - 64) (c1 - 64 * k - 64), undef, undef, undef, undef, undef, undef, undef, undef, undef, undef, undef, undef, undef, undef, undef], defers := [] })
    ?assign ?body ?done ?stop)
  case own =>
    exact fun k X Y row hs hg hr => hs.grown hg (fun r e => by have := (hr r e).1; omega) hgl hpl (by omega) (fun b hb => (hg0 b hb).1)
  case oiter =>
    rintro k X X' (rfl | ⟨v', rfl⟩) hs
    · exact hs.grown (grownBy_drew' X) (fun r e => by cases e) hgl hpl (by omega) (fun b hb => (hg0 b hb).1)
    · exact hs.grown (grownBy_setCell' X (w4.heap.size + 1) v') (fun r e => by injection e with e; omega) hgl hpl (by omega) (fun b hb => (hg0 b hb).1)
  case assign =>
    intro l k W K hK
    unfold blockV
    gi_wp2
    exact hK
  case body =>
    intro l k W hl hr hT hI
    obtain ⟨hX, hP, hL, hO, hKK, hsz⟩ := hI
    obtain rfl := hga (by omega)
    obtain ⟨A', c', he', hs'⟩ := SlI.of_own hO
    injection he' with e1 e2 e3
    subst e1 e3
    have hrd := block_rd hs' hT
    have hcl2 := hs'.2.1
    have HM := Lib.hid (show ∀ X : World, (X = W.drew) → Calls Tryd.prog 39 #[.agg (stC (Sh.after L4 (Sh.stateOf all) k)), .slice (some ⟨ga, 64 * k, none⟩) 64 (c1 - 64 * k)] X fun e w' => e = .returned (.agg (stC (Sh.after L4 (Sh.stateOf all) (k + 1)))) ∧ Below X.heap.size X w' from by
      rintro X rfl
      rw [Nat.zero_add] at hrd
      exact mix_own (some ⟨ga, 64 * k, none⟩) (c1 - 64 * k) (Sh.after L4 (Sh.stateOf all) k) (Sh.after_ok _ _ (Sh.stateOf_ok _) _) ((L4.drop (64 * k)).take 64) (by rw [List.length_take, List.length_drop]; omega) (fun x hx => HLB.out x (List.mem_of_mem_drop (List.mem_of_mem_take hx))) (by omega) W.drew (HTab.out W hKK) hrd)
    have hc2 : W.cell? ⟨w.heap.size, 0, none⟩ = some (.pointer (some ⟨g, 0, none⟩)) := hP.cell 0
    have HX := Lib.hid hX
    generalize Sh.after L4 (Sh.stateOf all) k = t at hX HM HX
    obtain ⟨t', ht'⟩ : ∃ t', Sh.after L4 (Sh.stateOf all) (k + 1) = t' := ⟨_, rfl⟩
    have HT' := Lib.hid ht'
    rw [ht'] at HM
    clear ht'
    have d0 : W.cell? ⟨g, 0, none⟩ = some (.int .u32 (t.a : Nat)) := hX.cell 0
    have d1 : W.cell? ⟨g, 1, none⟩ = some (.int .u32 (t.b : Nat)) := hX.cell 1
    have d2 : W.cell? ⟨g, 2, none⟩ = some (.int .u32 (t.c : Nat)) := hX.cell 2
    have d3 : W.cell? ⟨g, 3, none⟩ = some (.int .u32 (t.d : Nat)) := hX.cell 3
    have d4 : W.cell? ⟨g, 4, none⟩ = some (.int .u32 (t.e : Nat)) := hX.cell 4
    have d5 : W.cell? ⟨g, 5, none⟩ = some (.int .u32 (t.f : Nat)) := hX.cell 5
    have d6 : W.cell? ⟨g, 6, none⟩ = some (.int .u32 (t.g : Nat)) := hX.cell 6
    have d7 : W.cell? ⟨g, 7, none⟩ = some (.int .u32 (t.h : Nat)) := hX.cell 7
    have hSW : W.drew.cell? ⟨w.heap.size, 0, none⟩ = some (.pointer (some ⟨g, 0, none⟩)) := hc2
    gi_wp2
    refine round_region_held (fun X => X.cell? ⟨w.heap.size, 0, none⟩ = some (.pointer (some ⟨g, 0, none⟩))) (by kernel_rfl) (by kernel_rfl) (postW_notOut _) ?_
    refine wpAnyH_take (i := 0) (v := .pointer (some ⟨g, 0, none⟩)) rfl (by kernel_rfl) (by kernel_rfl) (by kernel_rfl) (fun _ _ _ h => h) (Or.inl ⟨by rfl, ?y0⟩) (by assumption) ?r0
    case y0 =>
      rintro w hcb
      go_simp
    refine wpAnyH_take (i := 1) (v := .pointer (some ⟨g, 0, none⟩)) rfl (by kernel_rfl) (by kernel_rfl) (by kernel_rfl) (fun _ _ _ h => h) (Or.inl ⟨by rfl, ?y1⟩) (by assumption) ?r1
    case y1 =>
      rintro w hcb
      go_simp
    refine wpAnyH_take (i := 2) (v := .pointer (some ⟨g, 0, none⟩)) rfl (by kernel_rfl) (by kernel_rfl) (by kernel_rfl) (fun _ _ _ h => h) (Or.inl ⟨by rfl, ?y2⟩) (by assumption) ?r2
    case y2 =>
      rintro w hcb
      go_simp
    refine wpAnyH_take (i := 3) (v := .pointer (some ⟨g, 0, none⟩)) rfl (by kernel_rfl) (by kernel_rfl) (by kernel_rfl) (fun _ _ _ h => h) (Or.inl ⟨by rfl, ?y3⟩) (by assumption) ?r3
    case y3 =>
      rintro w hcb
      go_simp
    refine wpAnyH_take (i := 5) (v := .slice (some ⟨ga, 64 * k, none⟩) 64 (c1 - 64 * k)) rfl (by kernel_rfl) (by kernel_rfl) (by kernel_rfl) (fun _ _ _ h => h) (Or.inl ⟨by rfl, ?y5⟩) (by assumption) ?r5
    case y5 =>
      rintro w hcb
      go_simp
    refine wpAnyH_take (i := 7) (v := .slice (some ⟨ga, behO 0 c1 k, none⟩) (L4.length - 64 * k - 64) (c1 - 64 * k - 64)) rfl (by kernel_rfl) (by kernel_rfl) (by kernel_rfl) (fun _ _ _ h => h) (Or.inl ⟨by rfl, ?y7⟩) (by assumption) ?r7
    case y7 =>
      rintro w hcb
      go_simp
    refine wpAnyH_ready (rs := [4]) (by kernel_rfl) (by simp) ?_
    refine AllReadyH.cons rfl (fun K hK => ?_) AllReadyH.nil
    go_simp
    refine hK.out _ _ hSW (fun hSL => ?_)
    clear hK K
    refine wpAnyH_ready (rs := [6]) (by kernel_rfl) (by simp) ?_
    refine AllReadyH.cons rfl (fun K hK => ?_) AllReadyH.nil
    go_simp
    refine (HM.out _ rfl).mono ?_
    rintro e w9 ⟨rfl, hb9⟩
    replace hb9 : Below W.heap.size W w9 := ⟨hb9.os, hb9.tape, hb9.output, hb9.size, hb9.block⟩
    have hX9 : Held w9 g 30 (shC t v (all ++ bs).length true) := HX.out.below hb9 HX.out.lt
    have hP9 : Held w9 w.heap.size 24 #[.pointer (some ⟨g, 0, none⟩)] := hP.below hb9 hP.lt
    have hL9 : Held w9 w4.heap.size 27 #[curV (some ⟨ga, 0, none⟩) ga L4.length c1 k] := hL.below hb9 hL.lt
    have hO9 : w9.ownsRow B 5 1 (.slice (some ⟨ga, 0, none⟩) L4.length c1) L4.length ((nI L4).map (Value.int .u8)) := own_same hO fun b hb => hb9.block b (hO.lt b hb).2
    have hK9 : KeepW w w9 g v := hKK.trans (KeepW.of_below hb9 g v)
    have hF9 : KeepsFrom W0.heap.size W w9 := KeepsFrom.below hb9
    have hp9 : w9.heap[w4.heap.size + 1]? = W.heap[w4.heap.size + 1]? := hb9.block _ (by show _ < W.heap.size; omega)
    have hz9 : W.heap.size ≤ w9.heap.size := hb9.size
    clear hb9
    refine hK.out _ _ (hP9.cell 0) (fun hSL => ?_)
    clear hK K
    refine wpAnyH_take (i := 8) (v := .pointer (some ⟨g, 0, none⟩)) rfl (by kernel_rfl) (by kernel_rfl) (by kernel_rfl) (fun _ _ _ h => h) (Or.inl ⟨by rfl, ?y8⟩) (by assumption) ?r8
    case y8 =>
      rintro w hcb
      go_simp
    refine wpAnyH_take (i := 9) (v := .pointer (some ⟨g, 0, none⟩)) rfl (by kernel_rfl) (by kernel_rfl) (by kernel_rfl) (fun _ _ _ h => h) (Or.inl ⟨by rfl, ?y9⟩) (by assumption) ?r9
    case y9 =>
      rintro w hcb
      go_simp
    refine wpAnyH_ready (rs := [10]) (by kernel_rfl) (by simp) ?_
    refine AllReadyH.cons rfl (fun K hK => ?_) AllReadyH.nil
    rw [if_pos (by rfl)]
    refine wp_store_mid 26 (.tmp 40) (.tmp 37) rfl g 0 (stC t') rfl rfl (hX9.there8 t') stSize (stC_one _) ?_
    have hg10 := grownBy_setCells g (stC t').toList 0 (World.grownBy.refl w9 (some g))
    have hX10 := held_setCells (s' := t') hX9
    generalize w9.setCells g 0 (stC t').toList = w10 at hg10 hX10 ⊢
    have hP10 := hP9.kept hg10 (by simp; omega)
    have hL10 := hL9.kept hg10 (by simp; omega)
    have hO10 := hO9.kept hg10 (.inr (fun e => hX9.not_row (by decide) hO9 e.symm))
    have hK10 := hK9.grown hg10 (fun r e => by injection e with e; exact Or.inl e.symm)
    have hF10 : KeepsFrom W0.heap.size W w10 := hF9.trans (KeepsFrom.of_grownBy hg10 (fun j e => by injection e with e; omega))
    have hp10 : w10.heap[w4.heap.size + 1]? = W.heap[w4.heap.size + 1]? := (hg10.block _ (by omega) (by simp; omega)).trans hp9
    have hz10 := hg10.size
    have hcL := hL10.cell 0
    have hfL := hL10.frozen 0
    refine hK.out _ _ (hP10.cell 0) (fun hSL => ?_)
    clear hK K
    refine wpAnyH_ready (rs := [11]) (by kernel_rfl) (by simp) ?_
    refine AllReadyH.cons rfl (fun K hK => ?_) AllReadyH.nil
    go_simp
    have hg11 := grownBy_setCell' w10 w4.heap.size (.slice (some ⟨ga, behO 0 c1 k, none⟩) (L4.length - 64 * k - 64) (c1 - 64 * k - 64))
    have hP11 := hP10.kept hg11 (by simp; omega)
    refine hK.out _ _ (hP11.cell 0) (fun hSL => ?_)
    clear hK K
    refine wpAnyH_done (by kernel_rfl) ?_ _
    refine ⟨hF10.trans (KeepsFrom.of_grownBy hg11 (fun j e => by injection e with e; omega)), (hg11.block _ (by omega) (by simp)).trans hp10, ?_, hP11, ?_, ?_, hK10.grown hg11 (fun r e => by injection e with e; exact .inr (.inr (by omega))), Nat.le_trans (by omega) hg11.size⟩
    · rw [HT'.out]; exact hX10.kept hg11 (by simp; omega)
    · rw [curV_succ]; exact hL10.set 0 _
    · exact hO10.kept hg11 (.inr (fun e => hL10.not_row (by decide) hO10 e.symm))
  case done =>
    rintro D k W hD rfl ⟨hX, hP, hL, hO, hKK, hsz⟩ hKd
    obtain ⟨A0, c0, he0, hs0⟩ := SlI.of_own hO
    injection he0 with e1 e2 e3
    subst e1 e3
    obtain ⟨A', c', he', hs'⟩ := cur_sl hs0 hga (Nat.le_refl _)
    rw [he'] at hL
    have hc2 : W.cell? ⟨w.heap.size, 0, none⟩ = some (.pointer (some ⟨g, 0, none⟩)) := hP.cell 0
    have hc4 : W.cell? ⟨w4.heap.size, 0, none⟩ = some (.slice A' (L4.drop (64 * (L4.length / 64))).length c') := hL.cell 0
    have HD := Lib.hid (show (L4.drop (64 * (L4.length / 64))).length ≤ maxLen ∧ (L4.drop (64 * (L4.length / 64))).length ≤ 63 by rw [List.length_drop]; unfold maxLen; omega)
    have HR5 := Lib.hid (show Sh.restOf (all ++ bs) = L4.drop (64 * (L4.length / 64)) by rw [Sh.rest_more, ← HL4.out])
    have HS5 := Lib.hid (show Sh.stateOf (all ++ bs) = Sh.after L4 (Sh.stateOf all) (L4.length / 64) by rw [Sh.state_more, ← HL4.out])
    generalize L4.drop (64 * (L4.length / 64)) = R at hs' hL hc4 HD HR5
    generalize Sh.after L4 (Sh.stateOf all) (L4.length / 64) = t at hX HS5
    go_wp2
    refine wp_region_orders (by kernel_rfl) [[0, 1, 2, 3, 4, 5], [1, 0, 2, 3, 4, 5], [1, 2, 0, 3, 4, 5]] (by kernel_rfl) ?_
    intro o ho
    simp only [List.mem_cons, List.not_mem_nil, or_false] at ho
    have HZ := Lib.hid (show 0 + R.length ≤ maxLen ∧ (0 + R.length) * 1 ≤ 140737488355328 ∧ W.heap.size ≤ W.drew.heap.size from ⟨by have := HD.out.1; omega, by have := HD.out.2; omega, Nat.le_refl _⟩)
    rcases ho with rfl | rfl | rfl
    all_goals
      simp only [opsAt_cons, opsAt_nil, List.getElem?_toArray, List.getElem?_cons_succ, List.getElem?_cons_zero, Option.toList_some, List.cons_append, List.nil_append]
      go_wp2_with ((with_reducible refine at_append ?_); refine wpList_append_sl W.drew rfl (.const (.slice none 0 0)) (.tmp 42) 27 rfl W.heap.size 5 i0 (.int .u8 0) 1 Tryd.underlying27 hi hz0 hz1 hz2 rfl (.slice none 0 0) 0 [] rfl (World.ownsRow_nil _ _ _ _) W.heap.size .u8 A' R.length c' (nI R) rfl hs' HZ.out.1 HZ.out.2.1 HZ.out.2.2 ?_
                   intro v5 w5 hO5 hg5 hv5
                   simp only [Nat.zero_add, List.nil_append] at hO5
                   obtain ⟨A5, c5, rfl, hs5⟩ := SlI.of_own hO5
                   have hX5 : Held w5 g 30 (shC t v (all ++ bs).length true) := Held.kept (W := W.drew) hX hg5 (by simp [Value.ownBlock])
                   have q8 : w5.cell? ⟨g, 8, none⟩ = some v := hX5.cell 8
                   have f8 := hX5.frozen 8
                   have p5 : w5.cell? ⟨w.heap.size, 0, none⟩ = some (.pointer (some ⟨g, 0, none⟩)) := (Held.kept (W := W.drew) hP hg5 (by simp [Value.ownBlock]) : Held w5 w.heap.size 24 #[.pointer (some ⟨g, 0, none⟩)]).cell 0)
      have hzw : w.heap.size ≤ W.heap.size := hKK.size
      have hKf : (w5.setCell ⟨g, 8, none⟩ (.slice A5 R.length c5)).heap[D]? = some (.deferred (some [])) :=
        (Below.heap_setCell w5 ⟨g, 8, none⟩ _ D (by show D ≠ g; omega)).trans ((hg5.block D (Array.getElem?_eq_some_iff.1 hKd).1 (by simp [Value.ownBlock])).trans hKd)
      refine ⟨by simp, .inl ⟨_, _, rfl, run_takeDeferred hKf, ?_⟩⟩
      have hg6 : w5.grownBy (w5.setCell ⟨g, 8, none⟩ (.slice A5 R.length c5)) (some g) := grownBy_set (World.grownBy.refl w5 (some g)) (p := ⟨g, 8, none⟩) rfl _
      have hO6 := hO5.kept hg6 (.inr (fun e => hX5.not_row (by decide) hO5 e.symm))
      have hX6 := hX5.set 8 (.slice A5 R.length c5)
      have hK6 := ((hKK.drew.grown hg5 (fun r e => by simp [Value.ownBlock] at e)).grown hg6 (fun r e => by injection e with e; exact Or.inl e.symm))
      have hg7 := grownBy_putObj' (w5.setCell ⟨g, 8, none⟩ (.slice A5 R.length c5)) D (.deferred none)
      have hO5lt := hO5.lt
      have hz5 := hg5.size
      refine ⟨_, results_none rfl _ _ _, ⟨_, rfl⟩, .slice A5 R.length c5, ⟨t, true, hX6.kept hg7 (by simp; omega), Or.inl ⟨rfl, HS5.out.symm⟩, hBg, ?_, by rw [List.length_append]; omega, ?_⟩, ?_, ?_⟩
      · rw [HR5.out]
        exact own_base (base' := B) (hO6.kept hg7 (.inr (fun e => by
          have h1 := (hO5lt D e).1
          have h2 := (Array.getElem?_eq_some_iff.1 hKd).1
          omega))) (by omega)
      · intro x hx
        rcases List.mem_append.1 hx with hx | hx
        · exact hab x hx
        · exact hbs x hx
      · exact hK6.grown hg7 (fun r e => by injection e with e; exact .inr (.inr (by omega)))
      · intro b hb
        have := (hO5lt b hb).1
        omega
  case stop =>
    rintro D c k W _ _ h _
    exact h.elim
end Go.Proofs.YtjkhkgdijnhdmaaDoor
