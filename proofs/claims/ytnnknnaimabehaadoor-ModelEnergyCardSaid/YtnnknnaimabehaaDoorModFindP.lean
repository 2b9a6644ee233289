/- Where blocks stand in their image, in plain Lean. -/
import Derived.Test.YtnnknnaimabehaaDoorModFind
import Derived.Test.YtnnknnaimabehaaDoorModJoinP
namespace Go.Proofs.YtnnknnaimabehaaDoor
open Go.RowKit
set_option linter.unusedVariables false
/-- A block's length in an image, its head left out. -/
def lenN (b : BlkP) : Nat := (sumP b.pts).toNat
/-- Where blocks end that begin at a place. -/
def totN (bs : List BlkP) : Nat := (bs.map fun b => lenN b + 2).sum
/-- How many blocks have the ID. -/
def cntN (bs : List BlkP) (id : Int) : Nat := (bs.filter fun b => decide (b.id = id)).length
theorem totN_next (bs : List BlkP) (j : Nat) (b : BlkP) (h : bs[j]? = some b) : totN (bs.take (j + 1)) = totN (bs.take j) + lenN b + 2 := by
  obtain ⟨hj, rfl⟩ := List.getElem?_eq_some_iff.1 h
  rw [List.take_succ_eq_append_getElem hj]
  simp only [totN, List.map_append, List.sum_append, List.map_cons, List.map_nil, List.sum_cons, List.sum_nil]
  omega
theorem cntN_next (bs : List BlkP) (j : Nat) (b : BlkP) (id : Int) (h : bs[j]? = some b) : cntN (bs.take (j + 1)) id = cntN (bs.take j) id + if b.id = id then 1 else 0 := by
  obtain ⟨hj, rfl⟩ := List.getElem?_eq_some_iff.1 h
  rw [List.take_succ_eq_append_getElem hj]
  simp only [cntN, List.filter_append, List.length_append]
  by_cases hb : bs[j].id = id <;> simp [hb]
theorem cntN_le (bs : List BlkP) (id : Int) : cntN bs id ≤ bs.length := List.length_filter_le _ _
theorem cntN_take (bs : List BlkP) (j : Nat) (id : Int) : cntN (bs.take j) id ≤ j := by
  have h1 := cntN_le (bs.take j) id
  rw [List.length_take] at h1
  omega
/-- Where the block stands. -/
def findB (id : Int) : List BlkP → Nat → Int → Int × Int × Bool
  | [], _, _ => (0, 0, false)
  | b :: r, p, nth => if b.id ≠ id then findB id r (p + 2 + lenN b) nth else if nth = 0 then ((p : Int) + 2, (lenN b : Int), true) else findB id r (p + 2 + lenN b) (nth - 1)
theorem drop_getD (X : List Int) (p k : Nat) (Y : List Int) (h : X.drop p = Y) : X.getD (p + k) 0 = Y.getD k 0 := by
  rw [← h]
  simp [List.getD]
theorem drop_len (X : List Int) (p : Nat) (Y : List Int) (h : X.drop p = Y) (hY : 0 < Y.length) : X.length = p + Y.length := by
  have := congrArg List.length h
  rw [List.length_drop] at this
  omega
theorem partB_in (b : BlkP) (x : List Int) (h : partB b = some x) : ∃ m, x = [b.id, (m.length : Int)] ++ m ∧ m.length = lenN b ∧ 1 ≤ b.id ∧ b.id ≤ 65534 := by
  unfold partB at h
  cases hm : blkB b with
  | none => rw [hm] at h; cases h
  | some m =>
    rw [hm] at h
    simp at h
    obtain ⟨⟨h1, h2⟩, _, h3, _⟩ := blk_in b m hm
    exact ⟨m, by simpa using h.symm, by unfold lenN; omega, h1, h2⟩
theorem find_list (X : List Int) (id : Int) (bs : List BlkP) : ∀ (p : Nat) (y : List Int) (f : Nat) (nth : Int), partsP bs = some y → X.drop p = y ++ [65535, 0] → bs.length < f → findP X id f p nth = findB id bs p nth := by
  induction bs with
  | nil =>
    intro p y f nth hy hX hf
    simp [partsP] at hy
    subst hy
    obtain ⟨f', rfl⟩ : ∃ f', f = f' + 1 := ⟨f - 1, by omega⟩
    have h0 := drop_getD X p 0 _ hX
    unfold findP findB
    rw [if_neg (fun h => h.2 (by rw [Nat.add_zero] at h0; rw [h0]; rfl))]
  | cons b r ih =>
    intro p y f nth hy hX hf
    obtain ⟨f', rfl⟩ : ∃ f', f = f' + 1 := ⟨f - 1, by omega⟩
    simp only [partsP] at hy
    cases hb : partB b with
    | none => rw [hb] at hy; cases hy
    | some x =>
      cases hr : partsP r with
      | none => rw [hb, hr] at hy; cases hy
      | some z =>
        rw [hb, hr] at hy
        injection hy with hy
        obtain ⟨m, rfl, hm, h1, h2⟩ := partB_in b x hb
        rw [← hy] at hX
        have h0 := drop_getD X p 0 _ hX
        have h3 := drop_getD X p 1 _ hX
        have h4 := drop_len X p _ hX (by simp)
        rw [Nat.add_zero] at h0
        simp at h0 h3 h4
        have h0' : X.getD p 0 = b.id := by rw [List.getD, h0]
        have h3' : X.getD (p + 1) 0 = (m.length : Int) := by rw [List.getD, h3]
        have hX2 : X.drop (p + 2 + lenN b) = z ++ [65535, 0] := by
          rw [← List.drop_drop, ← List.drop_drop, hX, ← hm]
          simp
        unfold findP findB
        rw [if_pos ⟨by omega, by rw [h0']; omega⟩, if_neg (by rw [h3']; omega), h0', h3', show p + 2 + ((m.length : Int)).toNat = p + 2 + lenN b by omega, ih _ z f' nth hr hX2 (by simp at hf; omega), ih _ z f' (nth - 1) hr hX2 (by simp at hf; omega)]
        rw [show (m.length : Int) = (lenN b : Int) by omega]
theorem partsP_len (bs : List BlkP) (y : List Int) (h : partsP bs = some y) : y.length = totN bs := by
  induction bs generalizing y with
  | nil => simp [partsP] at h; subst h; simp [totN]
  | cons b r ih =>
    simp only [partsP] at h
    cases hb : partB b with
    | none => rw [hb] at h; cases h
    | some x =>
      cases hr : partsP r with
      | none => rw [hb, hr] at h; cases h
      | some z =>
        rw [hb, hr] at h
        injection h with h
        obtain ⟨m, rfl, hm, _, _⟩ := partB_in b x hb
        have := ih z hr
        rw [← h]
        simp [totN] at this ⊢
        omega
/-- An image that is one. -/
theorem image_some (bs : List BlkP) (X : List Int) (h : imageP bs = some X) : ∃ y, partsP bs = some y ∧ X = [21365, 28243] ++ y ++ [65535, 0] ∧ y.length + 4 ≤ 9000 := by
  rw [imageP_parts] at h
  cases hy : partsP bs with
  | none => rw [hy] at h; cases h
  | some y =>
    rw [hy] at h
    dsimp only at h
    split at h
    · injection h with h
      exact ⟨y, rfl, h.symm, by assumption⟩
    · cases h
theorem findB_at (id : Int) (a : List BlkP) (b : BlkP) (c : List BlkP) (hb : b.id = id) : ∀ p, findB id (a ++ b :: c) p (cntN a id : Nat) = (((p + totN a : Nat) : Int) + 2, (lenN b : Int), true) := by
  induction a with
  | nil =>
    intro p
    simp [findB, cntN, totN, hb]
  | cons d a ih =>
    intro p
    simp only [List.cons_append, findB]
    by_cases hd : d.id = id
    · rw [if_neg (fun h => h hd)]
      have h1 : cntN (d :: a) id = cntN a id + 1 := by simp [cntN, hd]
      rw [h1, if_neg (by omega), show ((cntN a id + 1 : Nat) : Int) - 1 = (cntN a id : Nat) by omega, ih]
      simp [totN]
      omega
    · rw [if_pos hd]
      have h1 : cntN (d :: a) id = cntN a id := by simp [cntN, hd]
      rw [h1, ih]
      simp [totN]
      omega
theorem findB_none (id : Int) (a : List BlkP) : ∀ p (k : Nat), findB id a p ((cntN a id + k : Nat) : Int) = (0, 0, false) := by
  induction a with
  | nil => intro p k; rfl
  | cons d a ih =>
    intro p k
    simp only [findB]
    by_cases hd : d.id = id
    · rw [if_neg (fun h => h hd)]
      have h1 : cntN (d :: a) id = cntN a id + 1 := by simp [cntN, hd]
      rw [h1, if_neg (by omega), show ((cntN a id + 1 + k : Nat) : Int) - 1 = ((cntN a id + k : Nat) : Int) by omega, ih]
    · rw [if_pos hd]
      have h1 : cntN (d :: a) id = cntN a id := by simp [cntN, hd]
      rw [h1, ih]
theorem find_image (bs : List BlkP) (X : List Int) (id : Int) (nth : Nat) (h : imageP bs = some X) : findR X id nth = findB id bs 2 nth := by
  obtain ⟨y, hy, rfl, hl⟩ := image_some bs X h
  have h2 : 2 * bs.length ≤ y.length := by
    rw [partsP_len bs y hy]
    clear h hy hl
    induction bs with
    | nil => simp
    | cons b r ih => simp only [totN, List.map_cons, List.sum_cons, List.length_cons] at ih ⊢; omega
  unfold findR
  rw [if_neg (by simp)]
  refine find_list _ id bs 2 y _ _ hy (by simp) (by simp; omega)
/-- Each block is found where it stands. -/
theorem find_yes (bs : List BlkP) (X : List Int) (i : Nat) (b : BlkP) (h : imageP bs = some X) (hb : bs[i]? = some b) : findR X b.id (cntN (bs.take i) b.id : Nat) = (((4 + totN (bs.take i) : Nat) : Int), (lenN b : Int), true) := by
  rw [find_image bs X _ _ h]
  obtain ⟨hi, hbe⟩ := List.getElem?_eq_some_iff.1 hb
  have hs : bs = bs.take i ++ b :: bs.drop (i + 1) := by
    rw [← hbe]
    simp
  conv => lhs; arg 2; rw [hs]
  rw [findB_at _ _ _ _ rfl]
  simp
  omega
theorem find_no (bs : List BlkP) (X : List Int) (id : Int) (h : imageP bs = some X) : findR X id (cntN bs id : Nat) = (0, 0, false) := by
  rw [find_image bs X _ _ h]
  exact findB_none id bs 2 0
/-- A block of an image has the length that its definition has. -/
theorem image_blk (bs : List BlkP) (X : List Int) (i : Nat) (b : BlkP) (h : imageP bs = some X) (hb : bs[i]? = some b) : defB b.id b.pts = true ∧ lenP b.id b.pts = (lenN b : Int) ∧ lenN b ≤ 6250 := by
  obtain ⟨y, hy, _, _⟩ := image_some bs X h
  have h1 : ∃ m, blkB b = some m := by
    obtain ⟨hi, hbe⟩ := List.getElem?_eq_some_iff.1 hb
    have hs : bs = bs.take i ++ b :: bs.drop (i + 1) := by
      rw [← hbe]
      simp
    rw [hs, partsP_append] at hy
    cases hm : blkB b with
    | some m => exact ⟨m, rfl⟩
    | none =>
      have hp : partB b = none := by unfold partB; rw [hm]; rfl
      have : partsP (b :: bs.drop (i + 1)) = none := by simp only [partsP, hp]
      rw [this] at hy
      cases hq : partsP (bs.take i) <;> rw [hq] at hy <;> cases hy
  obtain ⟨m, hm⟩ := h1
  obtain ⟨_, h2, h3, _, h4⟩ := blk_in b m hm
  refine ⟨h4, ?_, ?_⟩
  · unfold lenP
    rw [if_pos h4]
    unfold lenN
    omega
  · unfold lenN
    omega
end Go.Proofs.YtnnknnaimabehaaDoor
