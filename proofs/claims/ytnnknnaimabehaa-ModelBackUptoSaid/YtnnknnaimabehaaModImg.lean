/- model.Image: a list of blocks' registers. -/
import Derived.Test.YtnnknnaimabehaaModBlk
namespace Go.Proofs.Ytnnknnaimabehaa
open Go.RowKit
set_option linter.unusedVariables false
set_option maxRecDepth 100000

/-- A block. -/
structure BlkP where
  id : Int
  pts : List PtP
  vals : List ValP
noncomputable def blkB (b : BlkP) : Option (List Int) := blkW b.id b.pts b.vals
/-- Blocks by value: a slice of structs of three cells. -/
def BkI (W : World) (B : Nat) (A : Option Addr) (n c : Nat) (bs : List BlkP) : Prop :=
  bs.length = n ∧ n ≤ c ∧ c ≤ maxLen ∧ (A = none → n = 0 ∧ c = 0) ∧ (0 < n → ∃ g off, A = some ⟨g, off, none⟩ ∧ g < B ∧ ∀ i b, bs[i]? = some b → ∃ Ap np cp Av nv cv, W.cell? ⟨g, off + i * 3, none⟩ = some (.int .i64 b.id) ∧ W.cell? ⟨g, off + i * 3 + 1, none⟩ = some (.slice Ap np cp) ∧ W.cell? ⟨g, off + i * 3 + 2, none⟩ = some (.slice Av nv cv) ∧ PtI W B Ap np cp b.pts ∧ VlI W B Av nv cv b.vals ∧ ∀ v ∈ b.vals, ValIn v)
theorem BkI.up {w w' : World} {A : Option Addr} {n c : Nat} {bs : List BlkP} (h : BkI w w.heap.size A n c bs) (hb : Below w.heap.size w w') : BkI w' w'.heap.size A n c bs := by
  obtain ⟨h1, h2, h3, h4, h5⟩ := h
  refine ⟨h1, h2, h3, h4, fun hn => ?_⟩
  obtain ⟨g, off, e, hg, hc⟩ := h5 hn
  refine ⟨g, off, e, Nat.lt_of_lt_of_le hg hb.size, fun i b hi => ?_⟩
  obtain ⟨Ap, np, cp, Av, nv, cv, k1, k2, k3, k4, k5, k6⟩ := hc i b hi
  exact ⟨Ap, np, cp, Av, nv, cv, (hb.cell (p := ⟨g, off + i * 3, none⟩) hg).trans k1, (hb.cell (p := ⟨g, off + i * 3 + 1, none⟩) hg).trans k2, (hb.cell (p := ⟨g, off + i * 3 + 2, none⟩) hg).trans k3, k4.up hb, k5.up hb, k6⟩
/-- The registers of the first k blocks. -/
noncomputable def imgTo (bs : List BlkP) : Nat → Option (List Int)
  | 0 => some [21365, 28243]
  | k + 1 => match imgTo bs k, bs[k]? with
    | some L, some b => (blkB b).map fun m => L ++ [b.id, (m.length : Int)] ++ m
    | _, _ => none
noncomputable def imageP (bs : List BlkP) : Option (List Int) := match imgTo bs bs.length with
  | some L => if L.length + 2 ≤ 9000 then some (L ++ [65535, 0]) else none
  | none => none
theorem imgTo_next (bs : List BlkP) (k : Nat) (L : List Int) (b : BlkP) (h : imgTo bs k = some L) (hb : bs[k]? = some b) : imgTo bs (k + 1) = (blkB b).map fun m => L ++ [b.id, (m.length : Int)] ++ m := by
  simp [imgTo, h, hb]
theorem imgTo_stop (bs : List BlkP) (k : Nat) (h : imgTo bs k = none) : ∀ j, imgTo bs (k + j) = none := by
  intro j
  induction j with
  | zero => exact h
  | succ j ih =>
    show imgTo bs (k + j + 1) = none
    simp [imgTo, ih]
theorem blk_in (b : BlkP) (m : List Int) (h : blkB b = some m) : (1 ≤ b.id ∧ b.id ≤ 65534) ∧ m.length ≤ 6250 ∧ (m.length : Int) = sumP b.pts ∧ b.vals.length = b.pts.length ∧ defB b.id b.pts = true := by
  unfold blkB blkW at h
  split at h
  · rename_i h1
    have h2 := h1.1
    unfold defB at h2
    rw [Bool.and_eq_true] at h2
    have h3 := of_decide_eq_true h2.1
    obtain ⟨h4, h5⟩ := seqW_len b.pts b.vals h2.2 b.pts.length m h (Nat.le_refl _)
    rw [List.take_length] at h4
    exact ⟨⟨h3.1, h3.2.1⟩, by omega, h4, h1.2, h1.1⟩
  · cases h
theorem imgTo_len (bs : List BlkP) (k : Nat) (L : List Int) (h : imgTo bs k = some L) : L.length ≤ 2 + 6252 * k := by
  induction k generalizing L with
  | zero => simp [imgTo] at h; subst h; simp
  | succ k ih =>
    cases hL : imgTo bs k with
    | none => simp [imgTo, hL] at h
    | some M =>
      cases hb : bs[k]? with
      | none => simp [imgTo, hL, hb] at h
      | some b =>
        rw [imgTo_next bs k M b hL hb] at h
        cases hm : blkB b with
        | none => rw [hm] at h; cases h
        | some m =>
          rw [hm] at h
          simp at h
          have h1 := ih M hL
          have h2 := (blk_in b m hm).2.1
          rw [← h]
          simp
          omega
/-- What Image answers. -/
def ImgPost (w : World) (o : Option (List Int)) (e : Ending) (w' : World) : Prop := ∃ A n c er, e = .returned (.tuple #[.slice A n c, .int .i64 er]) ∧ (er = if o.isSome then 0 else 260) ∧ (∀ l, o = some l → SlI w' w'.heap.size .u16 A n c l) ∧ Below w.heap.size w w'
/-- .. and where there is none, nothing. -/
def ImgPostN (w : World) (o : Option (List Int)) (e : Ending) (w' : World) : Prop := ∃ A n c er, e = .returned (.tuple #[.slice A n c, .int .i64 er]) ∧ (er = if o.isSome then 0 else 260) ∧ (∀ l, o = some l → SlI w' w'.heap.size .u16 A n c l) ∧ Below w.heap.size w w' ∧ (o = none → A = none ∧ n = 0 ∧ c = 0)
theorem ImgPostN.plain {w : World} {o : Option (List Int)} {e : Ending} {w' : World} (h : ImgPostN w o e w') : ImgPost w o e w' := by
  obtain ⟨A, n, c, er, h1, h2, h3, h4, _⟩ := h
  exact ⟨A, n, c, er, h1, h2, h3, h4⟩
end Go.Proofs.Ytnnknnaimabehaa
