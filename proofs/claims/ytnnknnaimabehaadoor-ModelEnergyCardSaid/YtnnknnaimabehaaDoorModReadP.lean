/- The blocks of registers, in plain Lean. -/
import Derived.Test.YtnnknnaimabehaaDoorModFindP
import Derived.Test.YtnnknnaimabehaaDoorModIdx
namespace Go.Proofs.YtnnknnaimabehaaDoor
open Go.RowKit
set_option linter.unusedVariables false
/-- The block of a definition that begins registers. -/
noncomputable def blkR (d : DefP) (l : List Int) : BlkP := ⟨d.id, d.pts, rdVs d.pts l⟩
/-- The blocks, and what is left. -/
noncomputable def rdL (ds : List DefP) : Nat → List Int → Option (List BlkP × List Int)
  | 0, _ => none
  | f + 1, l => if 2 ≤ l.length ∧ l.getD 0 0 ≠ 65535 then
      match idxP (l.getD 0 0) ds with
      | none => none
      | some i => if l.length < 2 + sumT (ds.getD i ⟨0, []⟩).pts then none else
        match rdL ds f (l.drop (2 + sumT (ds.getD i ⟨0, []⟩).pts)) with
        | none => none
        | some x => some (blkR (ds.getD i ⟨0, []⟩) (l.drop 2) :: x.1, x.2)
    else some ([], l)
open Classical in
noncomputable def readP (ds : List DefP) (l : List Int) : Option (List BlkP) :=
  if mayD ds ∧ 4 ≤ l.length then
    match rdL ds (l.length + 1) (l.drop 2) with
    | none => none
    | some x => if imageP x.1 = some l then some x.1 else none
  else none
theorem totN_blk (ds : List DefP) (hm : mayD ds) (i : Nat) (d : DefP) (hd : ds[i]? = some d) (l : List Int) : lenN (blkR d l) = sumT d.pts := by
  have h1 := (hm i d hd).1
  unfold defB at h1
  rw [Bool.and_eq_true] at h1
  have h2 := sumT_eq d.pts h1.2
  unfold lenN blkR
  dsimp only
  omega
theorem rdL_len (ds : List DefP) (hm : mayD ds) : ∀ (f : Nat) (l : List Int) (x : List BlkP × List Int), rdL ds f l = some x → totN x.1 + x.2.length = l.length ∧ (x.2.length < 2 ∨ x.2.getD 0 0 = 65535) ∧ x.2 = l.drop (totN x.1) := by
  intro f
  induction f with
  | zero => intro l x h; cases h
  | succ f ih =>
    intro l x h
    unfold rdL at h
    split at h
    · rename_i hc
      cases hi : idxP (l.getD 0 0) ds with
      | none => rw [hi] at h; cases h
      | some i =>
        rw [hi] at h
        dsimp only at h
        obtain ⟨d, hd, hid, _⟩ := idxP_some _ _ _ hi
        have hg : ds.getD i ⟨0, []⟩ = d := by simp [List.getD, hd]
        rw [hg] at h
        split at h
        · cases h
        · rename_i hlen
          cases hr : rdL ds f (l.drop (2 + sumT d.pts)) with
          | none => rw [hr] at h; cases h
          | some y =>
            rw [hr] at h
            injection h with h
            obtain ⟨h1, h2, h3⟩ := ih _ _ hr
            rw [List.length_drop] at h1
            have h4 := totN_blk ds hm i d hd (l.drop 2)
            have h5 : totN (blkR d (l.drop 2) :: y.1) = lenN (blkR d (l.drop 2)) + 2 + totN y.1 := by simp [totN]
            rw [← h]
            dsimp only
            rw [h5, h4]
            refine ⟨by omega, h2, ?_⟩
            rw [h3, List.drop_drop]
            congr 1
            omega
    · rename_i hc
      injection h with h
      rw [← h]
      refine ⟨by simp [totN], ?_, by simp [totN]⟩
      dsimp only
      by_cases h2 : 2 ≤ l.length
      · exact Or.inr (by rcases Classical.em (l.getD 0 0 = 65535) with h3 | h3
                         · exact h3
                         · exact (hc ⟨h2, h3⟩).elim)
      · exact Or.inl (by omega)
/-- Where the image is the registers, two are left. -/
theorem rdL_rest (ds : List DefP) (hm : mayD ds) (f : Nat) (l : List Int) (x : List BlkP × List Int) (h : rdL ds f (l.drop 2) = some x) (h2 : 2 ≤ l.length) (hi : imageP x.1 = some l) : x.2.length = 2 := by
  obtain ⟨h1, _, _⟩ := rdL_len ds hm f _ x h
  obtain ⟨y, hy, hl, _⟩ := image_some x.1 l hi
  have h3 := partsP_len x.1 y hy
  rw [List.length_drop] at h1
  have h4 := congrArg List.length hl
  simp at h4
  omega
theorem rdL_mono (ds : List DefP) : ∀ (f : Nat) (l : List Int), l.length < f → ∀ g, l.length < g → rdL ds f l = rdL ds g l := by
  intro f
  induction f with
  | zero => intro l h; omega
  | succ f ih =>
    intro l h g hg
    obtain ⟨g', rfl⟩ : ∃ g', g = g' + 1 := ⟨g - 1, by omega⟩
    unfold rdL
    split
    · rename_i hc
      cases hi : idxP (l.getD 0 0) ds with
      | none => rfl
      | some i =>
        dsimp only
        split
        · rfl
        · rw [ih _ (by rw [List.length_drop]; omega) g' (by rw [List.length_drop]; omega)]
    · rfl
theorem partsP_ids (bs : List BlkP) (y : List Int) (h : partsP bs = some y) : bs.length * 2 ≤ y.length := by
  rw [partsP_len bs y h]
  clear h
  induction bs with
  | nil => simp
  | cons b r ih => simp only [totN, List.map_cons, List.sum_cons, List.length_cons] at ih ⊢; omega
theorem rdL_cnt (ds : List DefP) : ∀ (f : Nat) (l : List Int) (x : List BlkP × List Int), rdL ds f l = some x → 2 * x.1.length ≤ l.length := by
  intro f
  induction f with
  | zero => intro l x h; cases h
  | succ f ih =>
    intro l x h
    unfold rdL at h
    split at h
    · rename_i hc
      cases hi : idxP (l.getD 0 0) ds with
      | none => rw [hi] at h; cases h
      | some i =>
        rw [hi] at h
        dsimp only at h
        split at h
        · cases h
        · rename_i hlen
          cases hr : rdL ds f (l.drop (2 + sumT (ds.getD i ⟨0, []⟩).pts)) with
          | none => rw [hr] at h; cases h
          | some y =>
            rw [hr] at h
            injection h with h
            have h1 := ih _ _ hr
            rw [List.length_drop] at h1
            rw [← h]
            simp only [List.length_cons]
            omega
    · injection h with h
      rw [← h]
      simp
end Go.Proofs.YtnnknnaimabehaaDoor
