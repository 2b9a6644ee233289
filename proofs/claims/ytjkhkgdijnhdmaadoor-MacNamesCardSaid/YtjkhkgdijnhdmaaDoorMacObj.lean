/- A Mac in memory: New, Write, Sum, Copy, Is. -/
import Derived.Test.YtjkhkgdijnhdmaaDoorMacBlock
import Derived.Deep.MidRow
import Derived.OrdersHeld
import Derived.Deep.RegionHeld3
namespace Go.Proofs.YtjkhkgdijnhdmaaDoor
open Go.RowKit

/-- A Mac's cells. -/
def macC (K : List Nat) (gs : Nat) : Array Value := (arr8 K).push (.pointer (some ⟨gs, 0, none⟩))
theorem macC_size (K : List Nat) (gs : Nat) (h : K.length = 64) : (macC K gs).size = 65 := by simp [macC, arr8_size, h]
theorem macC_s (K : List Nat) (gs : Nat) (h : K.length = 64) : (macC K gs)[64]? = some (.pointer (some ⟨gs, 0, none⟩)) := by
  have h1 : (arr8 K).size = 64 := by rw [arr8_size, h]
  unfold macC
  rw [← h1]
  simp
theorem fold_lay : ∀ (xs zs pre ys : List Value), zs.length = xs.length → List.foldl (fun (cs : Array Value) (x : Value × Nat) => cs.setIfInBounds x.snd x.fst) (pre ++ (zs ++ ys)).toArray (xs.zipIdx pre.length) = (pre ++ (xs ++ ys)).toArray
  | [], zs, pre, ys, h => by
    obtain rfl : zs = [] := List.eq_nil_of_length_eq_zero h
    rfl
  | x :: xs, zs, pre, ys, h => by
    match zs, h with
    | z :: zs, h =>
      have ih := fold_lay xs zs (pre ++ [x]) ys (by simpa using h)
      rw [List.length_append] at ih
      simp only [List.zipIdx_cons, List.foldl_cons]
      have e : (pre ++ (z :: zs ++ ys)).toArray.setIfInBounds pre.length x = (pre ++ [x] ++ (zs ++ ys)).toArray := by
        simp
      rw [e]
      simpa using ih
theorem zero_mac : Tryd.zeroCells63 = (List.replicate 64 (Value.int .u8 0) ++ [Value.pointer none]).toArray := by kernel_rfl
theorem fold_mac (K : List Nat) (h : K.length = 64) : Array.foldl (fun (cs : Array Value) (x : Value × Nat) => cs.setIfInBounds x.snd x.fst) Tryd.zeroCells63 (arr8 K).zipIdx 0 64 = (arr8 K).push (.pointer none) := by
  have h1 := fold_lay ((nI K).map (Value.int .u8)) (List.replicate 64 (Value.int .u8 0)) [] [.pointer none] (by simp [nI, h])
  have h2 : ∀ (f : Array Value → Value × Nat → Array Value) (Z : Array Value) (L : Array (Value × Nat)), L.size = 64 → Array.foldl f Z L 0 64 = List.foldl f Z L.toList := fun f Z L hL => by
    rw [← hL]; exact (Array.foldl_toList f).symm
  rw [h2 _ _ _ (by simp [arr8_size, h]), zero_mac]
  simpa [arr8] using h1
theorem set_mac (K : List Nat) (gs : Nat) (h : K.length = 64) : ((arr8 K).push (Value.pointer none)).setIfInBounds 64 (Value.pointer (some ⟨gs, 0, none⟩)) = macC K gs := by
  have h1 : (arr8 K).size = 64 := by rw [arr8_size, h]
  unfold macC
  apply Array.ext'
  simp [Array.setIfInBounds, h1]
/-- At block gm lies a Mac of the block K that took all; its Sha lies at gs. -/
structure MacAt (w : World) (B gm gs : Nat) (v : Value) (K all : List Nat) : Prop where
  held : Held w gm 63 (macC K gs)
  len : K.length = 64
  lt : ∀ x ∈ K, x < 256
  low : B ≤ gm
  ne : gm ≠ gs
  nv : ∀ b, v.ownBlock = some b → b ≠ gm
  sha : ShaAt w B gs v (mpad K 54 ++ all)
theorem mac_range (K : List Nat) (gs : Nat) {W : World} {gm : Nat} (hH : Held W gm 63 (macC K gs)) : W.rangeAt gm 0 ((nI K).map (Value.int .u8)) := fun j v hv => by
  rw [Nat.zero_add, hH.cell j]
  unfold macC arr8
  rw [Array.getElem?_push]
  have hj : j < (nI K).length := by have := (List.getElem?_eq_some_iff.1 hv).1; simpa using this
  rw [if_neg (by simp; omega)]
  simpa using hv
theorem mac_info (K : List Nat) (h : K.length = 64) : (Tryd.prog.info? 61).map (·.size) = some ((nI K).map (Value.int .u8)).length := by
  rw [List.length_map, nI_len, h]; kernel_rfl
set_option maxRecDepth 100000 in
set_option maxHeartbeats 4000000 in
theorem new_own (A : Option Addr) (cap : Nat) (bs : List Nat) (w : World) (hT : Tab w 0 .u32 firstI) (hT2 : Tab w 1 .u32 kI) (hR : SlI w w.heap.size .u8 A bs.length cap (nI bs)) (hbs : ∀ x ∈ bs, x < 256) (hmax : bs.length ≤ 999000) :
    Calls Tryd.prog 28 #[.slice A bs.length cap] w fun e w' => ∃ gm gs v, e = .returned (.pointer (some ⟨gm, 0, none⟩)) ∧ MacAt w' w.heap.size gm gs v (mkey bs) [] ∧ Below w.heap.size w w' := by
  have HB := Lib.hid (block_own A cap bs w hT hT2 hR hbs hmax)
  have HT := Lib.hid (fun (W : World) (h : Below w.heap.size w W) => And.intro (hT.up h) (hT2.up h))
  have hf := hT.lt (by decide)
  have hk := hT2.lt (by decide)
  obtain ⟨K, hK⟩ : ∃ K, mkey bs = K := ⟨_, rfl⟩
  have hKl : K.length = 64 := by rw [← hK]; exact mkey_len bs
  have hKi : ∀ x ∈ K, x < 256 := by rw [← hK]; exact mkey_in bs hbs
  rw [hK] at HB ⊢
  have hKs : (arr8 K).size = 64 := by rw [arr8_size, hKl]
  have HKI := Lib.hid hKi
  clear hT hT2 hR hbs hK hKi
  go_in
  go_wp2_with fail
  refine HB.out.mono ?_
  rintro e w1 ⟨rfl, hb1⟩
  have hz1 := hb1.size
  have hfo := fold_mac K hKl
  have hse := set_mac K w1.heap.size hKl
  have hmz := macC_size K w1.heap.size hKl
  obtain ⟨w2, hw2⟩ : ∃ w2, (w1.alloc (.cells (shC st0 (.slice none 0 0) 0 false) 30)).alloc (.cells (macC K w1.heap.size) 63) = w2 := ⟨_, rfl⟩
  have hb2 : Below w.heap.size w w2 := by rw [← hw2]; exact (hb1.alloc hz1 _).alloc (by simp; omega) _
  have hS2 : Held w2 w1.heap.size 30 (shC st0 (.slice none 0 0) 0 false) := by rw [← hw2]; exact (Held.new w1 _ _).alloc _
  have hM2 : Held w2 (w1.heap.size + 1) 63 (macC K w1.heap.size) := by
    rw [← hw2]; have := Held.new (w1.alloc (.cells (shC st0 (.slice none 0 0) 0 false) 30)) 63 (macC K w1.heap.size); rw [World.size_alloc] at this; exact this
  have hz2 : w2.heap.size = w1.heap.size + 2 := by rw [← hw2]; simp
  go_wp2_with fail
  change Code.wp _ _ _ _ ((w1.alloc (.cells (shC st0 (.slice none 0 0) 0 false) 30)).alloc (.cells (macC K w1.heap.size) 63))
  rw [hw2]
  clear hw2 hfo hse hmz HB hb1
  obtain ⟨gs, hgs⟩ : ∃ gs, w1.heap.size = gs := ⟨_, rfl⟩
  obtain ⟨gm, hgm⟩ : ∃ gm, gs + 1 = gm := ⟨_, rfl⟩
  rw [hgs, hgm] at hM2
  rw [hgs] at hS2 hz2 hz1
  rw [hgs, hgm]
  clear hgs w1
  have hSd : Held w2.drew gm 63 (macC K gs) := hM2
  have hbd : Below w.heap.size w w2.drew := hb2.drew
  have sN : SlI w2.drew w2.drew.heap.size .u8 none ([] : List Nat).length 0 (nI []) := SlI.nil _ _ _
  have KP := padded_own K 54 HKI.out (by decide) hKl none 0 [] w2.drew sN (by simp)
  rw [List.append_nil] at KP
  have HP := Lib.hid KP
  have hSh : ShaAt w2.drew w.heap.size gs (.slice none 0 0) [] := ShaAt.fresh hS2 (by omega)
  clear KP sN hM2 hS2
  refine wp_region_held (S := fun W => Held W gm 63 (macC K gs)) (by kernel_rfl) ?_
  change wpAnyH _ _ _ _ _ _ _ _ w2.drew
  have hzd : w2.drew.heap.size = w2.heap.size := rfl
  generalize w2.drew = w3 at hSd hbd HP hSh hzd ⊢
  refine wpAnyH_take (i := 0) (v := ?v0) rfl (by kernel_rfl) (by kernel_rfl) (by kernel_rfl) (fun _ _ _ h => h) (Or.inl ⟨by rfl, ?y0⟩) hSd ?r0
  case y0 =>
    rintro W hH
    have hc : W.cell? ⟨gm, 64, none⟩ = some (.pointer (some ⟨gs, 0, none⟩)) := (hH.cell 64).trans (macC_s K gs hKl)
    go_simp
    with_reducible rfl
  simp only [Act.put]
  refine wpAnyH_take (i := 1) (v := ?v1) rfl (by kernel_rfl) (by kernel_rfl) (by kernel_rfl) (fun _ _ _ h => h) (Or.inl ⟨by rfl, ?y1⟩) hSd ?r1
  case y1 =>
    rintro W hH
    have hc : W.cell? ⟨gm, 64, none⟩ = some (.pointer (some ⟨gs, 0, none⟩)) := (hH.cell 64).trans (macC_s K gs hKl)
    go_simp
    with_reducible rfl
  simp only [Act.put]
  refine wpAnyH_take (i := 2) (v := ?v2) rfl (by kernel_rfl) (by kernel_rfl) (by kernel_rfl) (fun _ _ _ h => h) (Or.inl ⟨by rfl, ?y2⟩) hSd ?r2
  case y2 =>
    rintro W hH
    have hc : W.cell? ⟨gm, 64, none⟩ = some (.pointer (some ⟨gs, 0, none⟩)) := (hH.cell 64).trans (macC_s K gs hKl)
    go_simp
    with_reducible rfl
  simp only [Act.put]
  refine wpAnyH_take (i := 3) (v := ?v3) rfl (by kernel_rfl) (by kernel_rfl) (by kernel_rfl) (fun _ _ _ h => h) (Or.inl ⟨by rfl, ?y3⟩) hSd ?r3
  case y3 =>
    rintro W hH
    have hc : W.cell? ⟨gm, 64, none⟩ = some (.pointer (some ⟨gs, 0, none⟩)) := (hH.cell 64).trans (macC_s K gs hKl)
    go_simp
    with_reducible rfl
  simp only [Act.put]
  refine wpAnyH_take (i := 4) (v := ?v4) rfl (by kernel_rfl) (by kernel_rfl) (by kernel_rfl) (fun _ _ _ h => h) (Or.inl ⟨by rfl, ?y4⟩) hSd ?r4
  case y4 =>
    rintro W hH
    have hc : W.cell? ⟨gm, 64, none⟩ = some (.pointer (some ⟨gs, 0, none⟩)) := (hH.cell 64).trans (macC_s K gs hKl)
    go_simp
    with_reducible rfl
  simp only [Act.put]
  refine wpAnyH_take (i := 5) (v := ?v5) rfl (by kernel_rfl) (by kernel_rfl) (by kernel_rfl) (fun _ _ _ h => h) (Or.inl ⟨by rfl, ?y5⟩) hSd ?r5
  case y5 =>
    rintro W hH
    have hc : W.cell? ⟨gm, 64, none⟩ = some (.pointer (some ⟨gs, 0, none⟩)) := (hH.cell 64).trans (macC_s K gs hKl)
    go_simp
    with_reducible rfl
  simp only [Act.put]
  refine wpAnyH_take (i := 6) (v := ?v6) rfl (by kernel_rfl) (by kernel_rfl) (by kernel_rfl) (fun _ _ _ h => h) (Or.inl ⟨by rfl, ?y6⟩) hSd ?r6
  case y6 =>
    rintro W hH
    have hc : W.cell? ⟨gm, 64, none⟩ = some (.pointer (some ⟨gs, 0, none⟩)) := (hH.cell 64).trans (macC_s K gs hKl)
    go_simp
    with_reducible rfl
  simp only [Act.put]
  refine wpAnyH_take (i := 7) (v := .agg (arr8 K)) rfl (by kernel_rfl) (by kernel_rfl) (by kernel_rfl) (fun _ _ _ h => h) ?y7 hSd ?r7
  case y7 => exact yieldsIf_load_mid (cs := (nI K).map (Value.int .u8)) (by rfl) 61 (.tmp 16) rfl gm 0 rfl _ (fun W hH => mac_range K gs hH) Tryd.underlying61 rfl (mac_info K hKl)
  simp only [Act.put]
  refine wpAnyH_ready (rs := [8]) (by kernel_rfl) (by simp) ?_
  refine AllReadyH.cons rfl (fun K' hK' => ?_) AllReadyH.nil
  go_simp
  refine HP.out.mono ?_
  rintro e w4 ⟨vp, rfl, hO4, hb4⟩
  obtain ⟨A4, c4, rfl, s4⟩ := SlI.of_own hO4
  have hz4 := hb4.size
  have hM4 : Held w4 gm 63 (macC K gs) := hSd.below hb4 hSd.lt
  have hSh4 := hSh.below hb4
  have hb4w := hbd.trans (hb4.mono (by omega))
  have hlt4 := hO4.lt
  go_simp
  refine hK'.out _ _ hM4 (fun hSL => ?_)
  clear hK' K'
  refine wpAnyH_ready (rs := [9]) (by kernel_rfl) (by simp) ?_
  refine AllReadyH.cons rfl (fun K' hK' => ?_) AllReadyH.nil
  go_simp
  have hml : (mpad K 54).length = 64 := by rw [mpad_len]; exact hKl
  refine ((callsIn_wide (n := 6)).1 (write_in w.heap.size gs (.slice none 0 0) [] (mpad K 54) A4 c4 w4 (by omega) hf hk (HT.out w4 hb4w).1 (HT.out w4 hb4w).2 hSh4 s4 (fun _ a ha => by
    have := hlt4 a.block (by rw [ha]; rfl)
    omega) (mpad_in K 54 HKI.out (by decide)) (by rw [hml]; simp))).mono ?_
  rintro e w5 ⟨⟨u5, rfl⟩, v5, hS5, hK5, hv5⟩
  rw [List.nil_append] at hS5
  have hM5 : Held w5 gm 63 (macC K gs) := (hK5.block gm hM4.lt (by omega) (by simp [Value.ownBlock])).trans hM4
  have hb5 : Below w.heap.size w w5 := hb4w.trans (hK5.below (by omega) (by omega) (fun k e => by simp [Value.ownBlock] at e))
  have hMA : MacAt w5 w.heap.size gm gs v5 K [] := ⟨hM5, hKl, HKI.out, by omega, by omega, fun b e => by have := hv5 b e; omega, by rw [List.append_nil]; exact hS5⟩
  go_simp
  refine hK'.out _ _ hM5 (fun hSL => ?_)
  clear hK' K'
  refine wpAnyH_done (by kernel_rfl) ?_ _
  go_wp2_with fail
  go_ret
  exact ⟨gm, gs, v5, rfl, hMA, hb5⟩
end Go.Proofs.YtjkhkgdijnhdmaaDoor
