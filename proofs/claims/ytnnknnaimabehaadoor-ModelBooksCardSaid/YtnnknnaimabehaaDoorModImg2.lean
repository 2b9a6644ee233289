/- model.Image: a list of blocks' registers. -/
import Derived.Test.YtnnknnaimabehaaDoorModBlk
namespace Go.Proofs.YtnnknnaimabehaaDoor
open Go.RowKit
set_option linter.unusedVariables false
set_option maxRecDepth 100000

/-- A block. -/
structure BlkP where
  id : Int
  pts : List PtP
  vals : List ValP
noncomputable def blkB (b : BlkP) : Option (List Int) := blkW b.id b.pts b.vals
/-- Blocks by value: a slice of structs of three cells. -/
def BkI (W : World) (B : Nat) (A : Option Addr) (n c : Nat) (bs : List BlkP) : Prop :=
  bs.length = n ∧ n ≤ c ∧ c ≤ maxLen ∧ (A = none → n = 0 ∧ c = 0) ∧ (0 < n → ∃ g off, A = some ⟨g, off, none⟩ ∧ g < B ∧ ∀ i b, bs[i]? = some b → ∃ Ap np cp Av nv cv, W.cell? ⟨g, off + i * 3, none⟩ = some (.int .i64 b.id) ∧ W.cell? ⟨g, off + i * 3 + 1, none⟩ = some (.slice Ap np cp) ∧ W.cell? ⟨g, off + i * 3 + 2, none⟩ = some (.slice Av nv cv) ∧ PtI W B Ap np cp b.pts ∧ VlI W B Av nv cv b.vals ∧ ∀ v ∈ b.vals, ValIn v)
theorem BkI.up {w w' : World} {A : Option Addr} {n c : Nat} {bs : List BlkP} (h : BkI w w.heap.size A n c bs) (hb : Below w.heap.size w w') : BkI w' w'.heap.size A n c bs := by
  obtain ⟨h1, h2, h3, h4, h5⟩ := h
  refine ⟨h1, h2, h3, h4, fun hn => ?_⟩
  obtain ⟨g, off, e, hg, hc⟩ := h5 hn
  refine ⟨g, off, e, Nat.lt_of_lt_of_le hg hb.size, fun i b hi => ?_⟩
  obtain ⟨Ap, np, cp, Av, nv, cv, k1, k2, k3, k4, k5, k6⟩ := hc i b hi
  exact ⟨Ap, np, cp, Av, nv, cv, (hb.cell (p := ⟨g, off + i * 3, none⟩) hg).trans k1, (hb.cell (p := ⟨g, off + i * 3 + 1, none⟩) hg).trans k2, (hb.cell (p := ⟨g, off + i * 3 + 2, none⟩) hg).trans k3, k4.up hb, k5.up hb, k6⟩
/-- The registers of the first k blocks. -/
noncomputable def imgTo (bs : List BlkP) : Nat → Option (List Int)
  | 0 => some [21365, 28243]
  | k + 1 => match imgTo bs k, bs[k]? with
    | some L, some b => (blkB b).map fun m => L ++ [b.id, (m.length : Int)] ++ m
    | _, _ => none
noncomputable def imageP (bs : List BlkP) : Option (List Int) := match imgTo bs bs.length with
  | some L => if L.length + 2 ≤ 9000 then some (L ++ [65535, 0]) else none
  | none => none
theorem imgTo_next (bs : List BlkP) (k : Nat) (L : List Int) (b : BlkP) (h : imgTo bs k = some L) (hb : bs[k]? = some b) : imgTo bs (k + 1) = (blkB b).map fun m => L ++ [b.id, (m.length : Int)] ++ m := by
  simp [imgTo, h, hb]
theorem imgTo_stop (bs : List BlkP) (k : Nat) (h : imgTo bs k = none) : ∀ j, imgTo bs (k + j) = none := by
  intro j
  induction j with
  | zero => exact h
  | succ j ih =>
    show imgTo bs (k + j + 1) = none
    simp [imgTo, ih]
theorem blk_in (b : BlkP) (m : List Int) (h : blkB b = some m) : (1 ≤ b.id ∧ b.id ≤ 65534) ∧ m.length ≤ 6250 ∧ (m.length : Int) = sumP b.pts ∧ b.vals.length = b.pts.length ∧ defB b.id b.pts = true := by
  unfold blkB blkW at h
  split at h
  · rename_i h1
    have h2 := h1.1
    unfold defB at h2
    rw [Bool.and_eq_true] at h2
    have h3 := of_decide_eq_true h2.1
    obtain ⟨h4, h5⟩ := seqW_len b.pts b.vals h2.2 b.pts.length m h (Nat.le_refl _)
    rw [List.take_length] at h4
    exact ⟨⟨h3.1, h3.2.1⟩, by omega, h4, h1.2, h1.1⟩
  · cases h
theorem imgTo_len (bs : List BlkP) (k : Nat) (L : List Int) (h : imgTo bs k = some L) : L.length ≤ 2 + 6252 * k := by
  induction k generalizing L with
  | zero => simp [imgTo] at h; subst h; simp
  | succ k ih =>
    cases hL : imgTo bs k with
    | none => simp [imgTo, hL] at h
    | some M =>
      cases hb : bs[k]? with
      | none => simp [imgTo, hL, hb] at h
      | some b =>
        rw [imgTo_next bs k M b hL hb] at h
        cases hm : blkB b with
        | none => rw [hm] at h; cases h
        | some m =>
          rw [hm] at h
          simp at h
          have h1 := ih M hL
          have h2 := (blk_in b m hm).2.1
          rw [← h]
          simp
          omega
/-- What Image answers. -/
def ImgPost (w : World) (o : Option (List Int)) (e : Ending) (w' : World) : Prop := ∃ A n c er, e = .returned (.tuple #[.slice A n c, .int .i64 er]) ∧ (er = if o.isSome then 0 else 260) ∧ (∀ l, o = some l → SlI w' w'.heap.size .u16 A n c l) ∧ Below w.heap.size w w'
/-- .. and where there is none, nothing. -/
def ImgPostN (w : World) (o : Option (List Int)) (e : Ending) (w' : World) : Prop := ∃ A n c er, e = .returned (.tuple #[.slice A n c, .int .i64 er]) ∧ (er = if o.isSome then 0 else 260) ∧ (∀ l, o = some l → SlI w' w'.heap.size .u16 A n c l) ∧ Below w.heap.size w w' ∧ (o = none → A = none ∧ n = 0 ∧ c = 0)
theorem ImgPostN.plain {w : World} {o : Option (List Int)} {e : Ending} {w' : World} (h : ImgPostN w o e w') : ImgPost w o e w' := by
  obtain ⟨A, n, c, er, h1, h2, h3, h4, _⟩ := h
  exact ⟨A, n, c, er, h1, h2, h3, h4⟩
end Go.Proofs.YtnnknnaimabehaaDoor
namespace Go.Proofs.YtnnknnaimabehaaDoor
open Go.RowKit
set_option linter.unusedVariables false
set_option maxRecDepth 100000
/-- The slice does not lie in this row's block. -/
def OffRow (v : Value) (A : Option Addr) : Prop := ∀ g, v.ownBlock = some g → ∀ a, A = some a → a.block ≠ g
/-- A slice of another block stays, where a row grows. -/
theorem SlI.grown {w w' : World} {k : IntKind} {A : Option Addr} {n c : Nat} {xs : List Int} {v : Value} (h : SlI w w.heap.size k A n c xs) (hg : w.grownBy w' v.ownBlock) (ho : OffRow v A) : SlI w' w'.heap.size k A n c xs := by
  refine ⟨h.1, h.2.1, h.2.2.1, h.2.2.2.1, fun hn => ?_⟩
  obtain ⟨g, off, e, hb, hc⟩ := h.2.2.2.2 hn
  refine ⟨g, off, e, Nat.lt_of_lt_of_le hb hg.size, fun i x hx => ?_⟩
  rw [World.cell?_of_block (hg.block g hb (fun hr => ho g hr.symm _ e rfl))]
  exact hc i x hx
set_option maxHeartbeats 4000000 in
theorem image_ownN (A : Option Addr) (n c : Nat) (bs : List BlkP) (hn : n ≤ 10000) (w : World) (hB : BkI w w.heap.size A n c bs) : Calls Tryd.prog 6 #[.slice A n c] w (ImgPostN w (imageP bs)) := by
  obtain ⟨i0, hi, hz0, hz1, hz2⟩ := info_parts infoW16
  have hl := hB.1
  have HBK := Lib.hid (fun (X : World) (h : Below w.heap.size w X) => hB.up h)
  have HL := Lib.hid hl
  clear hB hl
  have hown : (w.alloc (.cells #[.int .u16 21365, .int .u16 28243] 77)).ownsRow w.heap.size 77 1 (.slice (some ⟨w.heap.size, 0, none⟩) 2 2) 2 (([21365, 28243] : List Int).map (Value.int .u16)) := World.ownsRow_lit w #[.int .u16 21365, .int .u16 28243] 2 (Nat.le_refl _) (by unfold maxLen; omega) rfl
  obtain ⟨w1, hw1⟩ : ∃ W, w.alloc (.cells #[.int .u16 21365, .int .u16 28243] 77) = W := ⟨_, rfl⟩
  have hb1 : Below w.heap.size w w1 := by rw [← hw1]; exact (Below.refl _ w).alloc (Nat.le_refl _) _
  rw [hw1] at hown
  obtain ⟨O, hO⟩ : ∃ o, imageP bs = o := ⟨_, rfl⟩
  have HO := Lib.hid hO
  rw [hO]
  clear hO
  go_in
  go_wp2
  go_loopw [4, 12] (fun s4 i wx => ∃ (k : Nat) (L : List Int), k ≤ n ∧ i = .int .i64 k ∧ imgTo bs k = some L ∧ wx.ownsRow w.heap.size 77 1 s4 L.length (L.map (Value.int .u16)) ∧ Below w.heap.size w wx) (fun _ i _ => n - (intOf i).toNat)
  case atStart => exact ⟨0, [21365, 28243], Nat.zero_le _, rfl, rfl, by first | exact hown | (rw [hw1]; exact hown), by first | exact hb1 | (rw [hw1]; exact hb1)⟩
  case round =>
    obtain ⟨k, L, hk, rfl, hL, hrow, hbr⟩ := hrel
    clear hown hb1
    by_cases hlt : k < n
    · obtain ⟨⟨id, ps, vs⟩, hb⟩ : ∃ b, bs[k]? = some b := ⟨_, List.getElem?_eq_getElem (by rw [HL.out]; exact hlt)⟩
      obtain ⟨g, off, rfl, hg, hc⟩ := (HBK.out wr hbr).2.2.2.2 (by omega)
      obtain ⟨Ap, np, cp, Av, nv, cv, c0, c1, c2, hPt, hVl, hvi⟩ := hc k _ hb
      dsimp only at c0 hPt hVl hvi
      clear hc
      obtain ⟨w2, hw2⟩ : ∃ W, wr.alloc (.cells #[.int .i64 id, .slice Ap np cp, .slice Av nv cv] 37) = W := ⟨_, rfl⟩
      have hb2 : Below wr.heap.size wr w2 := by rw [← hw2]; exact (Below.refl _ _).alloc (Nat.le_refl _) _
      have hb2w := hbr.trans (hb2.mono hbr.size)
      have hK2 : Held w2 wr.heap.size 37 #[.int .i64 id, .slice Ap np cp, .slice Av nv cv] := by rw [← hw2]; exact Held.new _ _ _
      have k0 : w2.cell? ⟨wr.heap.size, 0, none⟩ = some (.int .i64 id) := hK2.cell 0
      have k1 : w2.cell? ⟨wr.heap.size, 1, none⟩ = some (.slice Ap np cp) := hK2.cell 1
      have k2 : w2.cell? ⟨wr.heap.size, 2, none⟩ = some (.slice Av nv cv) := hK2.cell 2
      have HWB := Lib.hid (callsIn_wide.1 (words_blk id Ap np cp Av nv cv ps vs hvi w2 (hPt.up hb2) (hVl.up hb2)))
      have hLl := imgTo_len bs k L hL
      have HLK := Lib.hid hL
      have HBB := Lib.hid hb
      clear hPt hVl hvi hL hb
      obtain ⟨ob, hob⟩ : ∃ o, blkW id ps vs = o := ⟨_, rfl⟩
      rw [hob] at HWB
      have HOB := Lib.hid hob
      clear hob
      go_wp2_with fail
      refine HWB.out.mono ?_
      rintro e w3 ⟨A3, n3, c3, rfl, hs3, hb3⟩
      have hb3w := hb2w.trans (hb3.mono hb2w.size)
      have hK3 := hK2.below hb3 hK2.lt
      have j0 : w3.cell? ⟨wr.heap.size, 0, none⟩ = some (.int .i64 id) := hK3.cell 0
      cases ob with
      | none =>
        have hi0 : imageP bs = none := by
          have h1 : imgTo bs (k + 1) = none := by rw [imgTo_next bs k L _ HLK.out HBB.out]; show (blkW id ps vs).map _ = none; rw [HOB.out]; rfl
          have h2 := imgTo_stop bs (k + 1) h1 (bs.length - (k + 1))
          rw [show k + 1 + (bs.length - (k + 1)) = bs.length by have := HL.out; omega] at h2
          unfold imageP
          rw [h2]
        have hos : (none : Option (List Int)).isSome = false := rfl
        rw [hos]
        have HI0 := Lib.hid hi0
        clear hi0 hs3 hos
        go_wp2_with fail
        go_ret2
        exact ⟨none, 0, 0, 260, rfl, by rw [← HO.out, HI0.out]; rfl, (fun l h => by rw [← HO.out, HI0.out] at h; cases h), hb3w, fun _ => ⟨rfl, rfl, rfl⟩⟩
      | some M =>
        have hos : (some M : Option (List Int)).isSome = true := rfl
        rw [hos]
        have hin := blk_in ⟨id, ps, vs⟩ M HOB.out
        obtain ⟨⟨hi1, hi2⟩, hM, -, -, -⟩ := hin
        dsimp only at hi1 hi2
        obtain ⟨hsM, hfM⟩ := hs3 M rfl
        have hnM := hsM.1
        have hrow3 := mown_up (mown_up hrow hb2) hb3
        have wi1 : IntKind.u16.wrap id = id := IntWalk.u16_in _ (by omega)
        have wi2 : IntKind.u16.wrap (n3 : Int) = (n3 : Int) := IntWalk.u16_in _ (by omega)
        obtain ⟨w4, hw4⟩ : ∃ W, w3.alloc (.cells #[.int .u16 id, .int .u16 n3] 77) = W := ⟨_, rfl⟩
        have hb4 : Below w3.heap.size w3 w4 := by rw [← hw4]; exact (Below.refl _ _).alloc (Nat.le_refl _) _
        have hs4 : SlI w4 w4.heap.size .u16 (some ⟨w3.heap.size, 0, none⟩) 2 2 [id, (n3 : Int)] := by rw [← hw4]; exact SlI.of_lit rfl rfl (by omega)
        have hrow4 := mown_up hrow3 hb4
        have hsM4 := hsM.up hb4
        have hb4w := hb3w.trans (hb4.mono hb3w.size)
        have hz4 := hb4w.size
        have HA1 := Lib.hid (show L.length + 2 ≤ maxLen ∧ (L.length + 2) * 2 ≤ 140737488355328 by unfold maxLen; omega)
        have HA2 := Lib.hid (show L.length + 2 + n3 ≤ maxLen ∧ (L.length + 2 + n3) * 2 ≤ 140737488355328 by unfold maxLen; omega)
        have hoff : OffRow u4 A3 := fun g2 h2 a2 e2 => by
          have h3 := (hrow.lt g2 h2).2
          have h4 := hfM a2 e2
          have h7 : wr.heap.size < w2.heap.size := hK2.lt
          omega
        have HOFF := Lib.hid hoff
        clear hos hs3 hrow3 hsM hK2 hK3 hoff hfM
        go_wp2_with (first
          | ((with_reducible refine at_append ?_); refine wpList_append_sl w4 rfl (.tmp 23) (.tmp 31) 22 rfl w.heap.size 77 i0 (.int .u16 0) 2 Tryd.underlying22 hi hz0 hz1 hz2 rfl _ L.length _ rfl hrow4 w4.heap.size .u16 (some ⟨w3.heap.size, 0, none⟩) 2 2 [id, (n3 : Int)] rfl hs4 HA1.out.1 HA1.out.2 hz4 ?_; intro v5 w5 hO5 hg5 hv5; have hM5 := hsM4.grown hg5 HOFF.out; have hb5w := hb4w.grown hg5 hz4 (fun B hB => (hrow4.lt B hB).1); have hz5 := hb5w.size; clear hg5 hv5)
          | ((with_reducible refine at_append ?_); refine wpList_append_sl w5 rfl (.tmp 32) (.tmp 33) 22 rfl w.heap.size 77 i0 (.int .u16 0) 2 Tryd.underlying22 hi hz0 hz1 hz2 rfl _ (L.length + 2) _ rfl hO5 w5.heap.size .u16 A3 n3 c3 M rfl hM5 HA2.out.1 HA2.out.2 hz5 ?_; intro v6 w6 hO6 hg6 hv6; have hb6w := hb5w.grown hg6 hz5 (fun B hB => (hO5.lt B hB).1); clear hg6 hv6))
        go_roundw
        case rel =>
          subst hnM
          exact ⟨k + 1, L ++ [id, (M.length : Int)] ++ M, by omega, by go_num, by rw [imgTo_next bs k L _ HLK.out HBB.out]; show (blkW id ps vs).map _ = _; rw [HOB.out]; rfl, by rw [List.map_append, List.map_append, List.length_append, List.length_append]; exact hO6, hb6w⟩
        case measure => simp [intOf]; omega
    · obtain rfl : k = n := by omega
      have hLl := imgTo_len bs k L hL
      have hLb : imgTo bs bs.length = some L := by rw [HL.out]; exact hL
      have hIP : imageP bs = if L.length + 2 ≤ 9000 then some (L ++ [65535, 0]) else none := by unfold imageP; rw [hLb]
      have HIP := Lib.hid hIP
      obtain ⟨w4, hw4⟩ : ∃ W, wr.alloc (.cells #[.int .u16 65535, .int .u16 0] 77) = W := ⟨_, rfl⟩
      have hb4 : Below wr.heap.size wr w4 := by rw [← hw4]; exact (Below.refl _ _).alloc (Nat.le_refl _) _
      have hs4 : SlI w4 w4.heap.size .u16 (some ⟨wr.heap.size, 0, none⟩) 2 2 [65535, 0] := by rw [← hw4]; exact SlI.of_lit rfl rfl (by omega)
      have hrow4 := mown_up hrow hb4
      have hb4w := hbr.trans (hb4.mono hbr.size)
      have hz4 := hb4w.size
      have HA1 := Lib.hid (show L.length + 2 ≤ maxLen ∧ (L.length + 2) * 2 ≤ 140737488355328 by unfold maxLen; omega)
      clear hIP hLb hL hrow hb4
      by_cases h9 : L.length + 2 ≤ 9000
      all_goals
        have h9' : (((L.length + 2 : Nat) : Int) > 9000) = ¬ (L.length + 2 ≤ 9000) := by simp only [eq_iff_iff]; omega
        go_wp2_with (first
          | ((with_reducible refine at_append ?_); refine wpList_append_sl w4 rfl (.tmp 36) (.tmp 37) 22 rfl w.heap.size 77 i0 (.int .u16 0) 2 Tryd.underlying22 hi hz0 hz1 hz2 rfl _ L.length _ rfl hrow4 w4.heap.size .u16 (some ⟨wr.heap.size, 0, none⟩) 2 2 [65535, 0] rfl hs4 HA1.out.1 HA1.out.2 hz4 ?_; intro v5 w5 hO5 hg5 hv5; have hb5w := hb4w.grown hg5 hz4 (fun B hB => (hrow4.lt B hB).1); obtain ⟨A5, c5, rfl, hs5⟩ := SlI.of_own (xs := L ++ [65535, 0]) (by rw [List.map_append]; exact hO5); clear hg5 hv5 hO5)
          | fail)
        go_ret2
        first
          | exact ⟨_, _, _, 0, rfl, by rw [← HO.out, HIP.out, if_pos h9]; rfl, (fun l h => by rw [← HO.out, HIP.out, if_pos h9] at h; injection h with h; rw [← h]; exact hs5), hb5w, fun h => by rw [← HO.out, HIP.out, if_pos h9] at h; cases h⟩
          | exact ⟨none, 0, 0, 260, rfl, by rw [← HO.out, HIP.out, if_neg h9]; rfl, (fun l h => by rw [← HO.out, HIP.out, if_neg h9] at h; cases h), hb5w, fun _ => ⟨rfl, rfl, rfl⟩⟩
theorem image_own (A : Option Addr) (n c : Nat) (bs : List BlkP) (hn : n ≤ 10000) (w : World) (hB : BkI w w.heap.size A n c bs) : Calls Tryd.prog 6 #[.slice A n c] w (ImgPost w (imageP bs)) :=
  (image_ownN A n c bs hn w hB).mono fun _ _ h => h.plain
end Go.Proofs.YtnnknnaimabehaaDoor
namespace Go.Proofs.YtnnknnaimabehaaDoor
open Go.RowKit
set_option linter.unusedVariables false
set_option maxRecDepth 100000
set_option maxHeartbeats 1000000 in
theorem check_blk (id : Int) (A : Option Addr) (n c : Nat) (B : Option Addr) (n' d : Nat) (ps : List PtP) (vs : List ValP) (hvs : ∀ v ∈ vs, ValIn v) (w : World) (hP : PtI w w.heap.size A n c ps) (hV : VlI w w.heap.size B n' d vs) :
    Calls Tryd.prog 11 #[.agg #[.int .i64 id, .slice A n c, .slice B n' d]] w fun e w' => e = .returned (.int .i64 (if (blkW id ps vs).isSome then 0 else 260)) ∧ Below w.heap.size w w' := by
  obtain ⟨w1, hw1⟩ : ∃ W, w.alloc (.cells #[.int .i64 id, .slice A n c, .slice B n' d] 37) = W := ⟨_, rfl⟩
  have hb1 : Below w.heap.size w w1 := by rw [← hw1]; exact (Below.refl _ w).alloc (Nat.le_refl _) _
  have hD1 : Held w1 w.heap.size 37 #[.int .i64 id, .slice A n c, .slice B n' d] := by rw [← hw1]; exact Held.new w _ _
  have d0 : w1.cell? ⟨w.heap.size, 0, none⟩ = some (.int .i64 id) := hD1.cell 0
  have d1 : w1.cell? ⟨w.heap.size, 1, none⟩ = some (.slice A n c) := hD1.cell 1
  have d2 : w1.cell? ⟨w.heap.size, 2, none⟩ = some (.slice B n' d) := hD1.cell 2
  have HWB := Lib.hid (callsIn_wide.1 (words_blk id A n c B n' d ps vs hvs w1 (hP.up hb1) (hV.up hb1)))
  obtain ⟨ob, hob⟩ : ∃ o, (blkW id ps vs) = o := ⟨_, rfl⟩
  rw [hob] at HWB ⊢
  clear hob hP hV hvs
  go_in
  go_wp2_with fail
  refine HWB.out.mono ?_
  rintro e w3 ⟨A3, n3, c3, rfl, _, hb3⟩
  have hb3w := hb1.trans (hb3.mono hb1.size)
  cases ob with
  | none =>
    have h0 : (none : Option (List Int)).isSome = false := rfl
    rw [h0]
    go_wp2_with fail
    go_ret
    exact ⟨rfl, hb3w⟩
  | some M =>
    have h0 : (some M : Option (List Int)).isSome = true := rfl
    rw [h0]
    go_wp2_with fail
    go_ret
    exact ⟨rfl, hb3w⟩
end Go.Proofs.YtnnknnaimabehaaDoor
