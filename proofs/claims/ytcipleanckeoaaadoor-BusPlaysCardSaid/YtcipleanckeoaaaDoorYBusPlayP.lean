/- The plain law of what comes of acts: pieces, their stable order, and that there is but one. -/
import Derived.Test.YtcipleanckeoaaaDoorYSortA
import Derived.Test.YtcipleanckeoaaaDoorYBusOwn
namespace Go.Proofs.YtcipleanckeoaaaDoor
open Go.RowKit
set_option linter.unusedVariables false
set_option linter.unusedSimpArgs false
def actL (t : Int) (req : List Int) (a : ActP) : List (Int × List Int) :=
 if bytesA req a = [] then [] else if 0 < a.gap ∧ 1 < (bytesA req a).length then [(t + a.wait, (bytesA req a).take ((bytesA req a).length / 2)), (t + a.wait + a.gap, (bytesA req a).drop ((bytesA req a).length / 2))]
  else [(t + a.wait, bytesA req a)]
def playL (t : Int) (req : List Int) (l : List ActP) : List (Int × List Int) := l.flatMap (actL t req)
theorem perm_one {α : Type} {r : α → α → Prop} (ha : ∀ x y, r x y → r y x → False) : ∀ {A B : List α}, A.Perm B → A.Pairwise r → B.Pairwise r → A = B
 | [], B, h, _, _ => (List.nil_perm.mp h).symm
 | a :: A, [], h, _, _ => by cases List.perm_nil.mp h
 | a :: A, b :: B, h, hA, hB => by
  have ha1 : a ∈ b :: B := h.mem_iff.mp (List.mem_cons_self ..)
  have hb1 : b ∈ a :: A := h.mem_iff.mpr (List.mem_cons_self ..)
  have e : a = b := by
   rcases List.mem_cons.mp ha1 with h1 | h1
   ·exact h1
   ·rcases List.mem_cons.mp hb1 with h2 | h2
    ·exact h2.symm
    ·exact (ha a b ((List.pairwise_cons.mp hA).1 b h2) ((List.pairwise_cons.mp hB).1 a h1)).elim
  subst e
  rw [perm_one ha (List.Perm.cons_inv h) (List.pairwise_cons.mp hA).2 (List.pairwise_cons.mp hB).2]
def zAt (zs : List (Int × List Int)) (i : Nat) : Int × List Int := zs.getD i (0, [])
def keyLt (zs : List (Int × List Int)) (i j : Nat) : Prop := (zAt zs i).1 < (zAt zs j).1 ∨ ((zAt zs i).1 = (zAt zs j).1 ∧ i < j)
def SortedOf (zs rs : List (Int × List Int)) : Prop := ∃ is : List Nat, is.Perm (List.range zs.length) ∧ is.Pairwise (keyLt zs) ∧ rs = is.map (zAt zs)
theorem SortedOf.one {zs rs rs' : List (Int × List Int)} (h : SortedOf zs rs) (h' : SortedOf zs rs') : rs = rs' := by
 obtain ⟨is, p, s, rfl⟩ := h
 obtain ⟨is', p', s', rfl⟩ := h'
 rw [perm_one (fun x y h1 h2 => by unfold keyLt at h1 h2; omega) (p.trans p'.symm) s s']
theorem SortedOf.up {zs rs : List (Int × List Int)} (h : SortedOf zs rs) : rs.Pairwise (fun a b => a.1 ≤ b.1) := by
 obtain ⟨is, p, s, rfl⟩ := h
 rw [List.pairwise_map]
 exact s.imp fun h => by unfold keyLt at h; omega
theorem SortedOf.nil : SortedOf [] [] := ⟨[], List.Perm.refl _, List.Pairwise.nil, rfl⟩
theorem SortedOf.two (y z : Int × List Int) (h : y.1 ≤ z.1) : SortedOf [y, z] [y, z] := by
 refine ⟨[0, 1], List.Perm.refl _, ?_, rfl⟩
 refine List.pairwise_cons.mpr ⟨fun b hb => ?_, List.pairwise_singleton _ _⟩
 obtain rfl : b = 1 := by simpa using hb
 unfold keyLt
 show y.1 < z.1 ∨ (y.1 = z.1 ∧ (0 : Nat) < 1)
 omega
theorem actL_len (t : Int) (req : List Int) (a : ActP) : (actL t req a).length ≤ 2 := by
 unfold actL
 split
 ·simp
 ·split <;> simp
theorem playL_len (t : Int) (req : List Int) (l : List ActP) : (playL t req l).length ≤ 2 * l.length := by
 induction l with
 | nil => simp [playL]
 | cons a r ih =>
  have : playL t req (a :: r) = actL t req a ++ playL t req r := by simp [playL]
  have h := actL_len t req a
  rw [this, List.length_append, List.length_cons]
  omega
def HoldsP (zs : List (Int × List Int)) (w : World) (ys : List Pc) : Prop := ∀ y ∈ ys, ∃ d, zs[y.idx]? = some (y.at_, d) ∧ SlI w w.heap.size .u8 y.A y.n y.c d
theorem holds_sorted {zs : List (Int × List Int)} {w : World} {xs ys : List Pc} (hx : xs.map (·.idx) = List.range zs.length) (hp : ys.Perm xs) (hs : SortedP ys) (hh : HoldsP zs w ys) :
  ∃ rs, SortedOf zs rs ∧ rs.length = ys.length ∧ ∀ (i : Nat) (y : Pc), ys[i]? = some y → ∃ d, rs[i]? = some (y.at_, d) ∧ SlI w w.heap.size .u8 y.A y.n y.c d := by
 have key : ∀ y ∈ ys, (zAt zs y.idx).1 = y.at_ := fun y hy => by
  obtain ⟨d, hd, _⟩ := hh y hy
  unfold zAt
  rw [List.getD_eq_getElem?_getD, hd]; rfl
 refine ⟨(ys.map (·.idx)).map (zAt zs), ⟨ys.map (·.idx), ?_, ?_, rfl⟩, by simp, fun i y hi => ?_⟩
 ·rw [← hx]; exact hp.map _
 ·rw [List.pairwise_map]
  refine List.Pairwise.imp_of_mem ?_ hs
  intro a b ha hb hab
  unfold keyLt
  rw [key a ha, key b hb]
  exact hab
 ·obtain ⟨d, hd, hsl⟩ := hh y (List.mem_of_getElem? hi)
  refine ⟨d, ?_, hsl⟩
  rw [List.getElem?_map, List.getElem?_map, hi]
  simp only [Option.map_some]
  unfold zAt
  rw [List.getD_eq_getElem?_getD, hd]; rfl
end Go.Proofs.YtcipleanckeoaaaDoor
