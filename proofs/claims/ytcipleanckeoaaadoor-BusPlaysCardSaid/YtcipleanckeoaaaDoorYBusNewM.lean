/- Lists of acts in memory: what a script holds. -/
import Derived.Test.YtcipleanckeoaaaDoorYBusTwin
import Derived.Test.YtcipleanckeoaaaDoorYBusActs
set_option maxRecDepth 100000
set_option maxHeartbeats 40000000
namespace Go.Proofs.YtcipleanckeoaaaDoor
open Go.RowKit
set_option linter.unusedVariables false
set_option linter.unusedSimpArgs false
def ArgT (w : World) (a : ActP) (Ar : Option Addr) (nr cr : Nat) (D : Option Addr) (nd cd : Nat) : Prop := SlI w w.heap.size .u16 Ar nr cr a.regs ∧ SlI w w.heap.size .u8 D nd cd a.data ∧ TyAt w 45 Ar ∧ TyAt w 5 D
theorem ArgT.up {w w' : World} {a : ActP} {Ar : Option Addr} {nr cr : Nat} {D : Option Addr} {nd cd : Nat} (h : ArgT w a Ar nr cr D nd cd) (hb : Below w.heap.size w w') : ArgT w' a Ar nr cr D nd cd := ⟨h.1.up hb, h.2.1.up hb, h.2.2.1.up hb, h.2.2.2.up hb⟩
theorem ArgT.kt {T : TypeId} {w w' : World} {a : ActP} {Ar : Option Addr} {nr cr : Nat} {D : Option Addr} {nd cd : Nat} (h : ArgT w a Ar nr cr D nd cd) (k : KT T w w') (h1 : 45 ≠ T) (h2 : 5 ≠ T) : ArgT w' a Ar nr cr D nd cd := ⟨h.1.kt h.2.2.1 k h1, h.2.1.kt h.2.2.2 k h2, h.2.2.1.kt k h1, h.2.2.2.kt k h2⟩
def ActsT (w : World) (A : Option Addr) (n c : Nat) (l : List ActP) : Prop :=
 l.length = n ∧ n ≤ c ∧ c ≤ maxLen ∧ (A = none → n = 0 ∧ c = 0) ∧ TyAt w 29 A ∧ (0 < n → ∃ g off, A = some ⟨g, off, none⟩ ∧ ∀ (i : Nat) (a : ActP), l[i]? = some a →
  ∃ Ar nr cr D nd cd, w.rangeAt g (off + i * 9) (a.cells Ar nr cr D nd cd).toList ∧ ArgT w a Ar nr cr D nd cd)
theorem ActsT.acts {w : World} {A : Option Addr} {n c : Nat} {l : List ActP} (h : ActsT w A n c l) : ActsI w A n c l := by
 obtain ⟨h1, h2, h3, h4, ht, h5⟩ := h
 refine ⟨h1, h2, h3, h4, fun hn => ?_⟩
 obtain ⟨g, off, e, hc⟩ := h5 hn
 obtain ⟨cs, hcs⟩ := ht _ e
 exact ⟨g, off, e, (Array.getElem?_eq_some_iff.1 hcs).1, fun i a ha => by
  obtain ⟨Ar, nr, cr, D, nd, cd, k1, k2⟩ := hc i a ha
  exact ⟨Ar, nr, cr, D, nd, cd, k1, k2.1, k2.2.1⟩⟩
theorem ActsT.turn {w w' : World} {A : Option Addr} {n c : Nat} {l : List ActP} (h : ActsT w A n c l) (ht : TyAt w' 29 A) (hk : ∀ a, A = some a → w'.heap[a.block]? = w.heap[a.block]?) (ha : ∀ (a : ActP) (Ar : Option Addr) (nr cr : Nat) (D : Option Addr) (nd cd : Nat), ArgT w a Ar nr cr D nd cd → ArgT w' a Ar nr cr D nd cd) : ActsT w' A n c l := by
 obtain ⟨h1, h2, h3, h4, _, h5⟩ := h
 refine ⟨h1, h2, h3, h4, ht, fun hn => ?_⟩
 obtain ⟨g, off, e, hc⟩ := h5 hn
 refine ⟨g, off, e, fun i a hi => ?_⟩
 obtain ⟨Ar, nr, cr, D, nd, cd, k1, k2⟩ := hc i a hi
 exact ⟨Ar, nr, cr, D, nd, cd, fun j v hv => (World.cell?_of_block (a := ⟨g, off + i * 9 + j, none⟩) (show w'.heap[g]? = w.heap[g]? from hk ⟨g, off, none⟩ e)).trans (k1 j v hv), ha _ _ _ _ _ _ _ k2⟩
theorem ActsT.up {w w' : World} {A : Option Addr} {n c : Nat} {l : List ActP} (h : ActsT w A n c l) (hb : Below w.heap.size w w') : ActsT w' A n c l := h.turn (h.2.2.2.2.1.up hb) (fun a e => by
 obtain ⟨cs, hc⟩ := h.2.2.2.2.1 a e
 exact hb.block _ (Array.getElem?_eq_some_iff.1 hc).1) (fun a Ar nr cr D nd cd k => k.up hb)
theorem ActsT.kt {T : TypeId} {w w' : World} {A : Option Addr} {n c : Nat} {l : List ActP} (h : ActsT w A n c l) (k : KT T w w') (h1 : 29 ≠ T) (h2 : 45 ≠ T) (h3 : 5 ≠ T) : ActsT w' A n c l := h.turn (h.2.2.2.2.1.kt k h1) (fun a e => by
 obtain ⟨cs, hc⟩ := h.2.2.2.2.1 a e
 exact k.2 _ _ _ hc h1) (fun a Ar nr cr D nd cd q => q.kt k h2 h3)
abbrev ActQ := ActP × (Option Addr × Nat × Nat) × (Option Addr × Nat × Nat)
def ActQ.cells (q : ActQ) : List Value := (q.1.cells q.2.1.1 q.2.1.2.1 q.2.1.2.2 q.2.2.1 q.2.2.2.1 q.2.2.2.2).toList
def rowA (qs : List ActQ) : List Value := qs.flatMap ActQ.cells
theorem rowA_at : ∀ (qs : List ActQ) (i : Nat) (q : ActQ) (j : Nat) (v : Value), qs[i]? = some q → q.cells[j]? = some v → (rowA qs)[i * 9 + j]? = some v
 | [], i, q, j, v, h, _ => by cases h
 | x :: r, 0, q, j, v, h, hv => by
  obtain rfl : x = q := by simpa using h
  have e : rowA (x :: r) = x.cells ++ rowA r := by simp [rowA]
  rw [e, Nat.zero_mul, Nat.zero_add, List.getElem?_append_left (List.getElem?_eq_some_iff.1 hv).1]
  exact hv
 | x :: r, i + 1, q, j, v, h, hv => by
  have e : rowA (x :: r) = x.cells ++ rowA r := by simp [rowA]
  have hl : x.cells.length = 9 := rfl
  rw [e, List.getElem?_append_right (by omega), hl, show (i + 1) * 9 + j - 9 = i * 9 + j by omega]
  exact rowA_at r i q j v (by simpa using h) hv
def OwnA (X : World) (B : Nat) (v : Value) (k : Nat) (l : List ActP) : Prop := ∃ qs : List ActQ, qs.map (·.1) = l ∧ qs.length = k ∧ X.ownsRow B 29 9 v k (rowA qs) ∧ ∀ q ∈ qs, ArgT X q.1 q.2.1.1 q.2.1.2.1 q.2.1.2.2 q.2.2.1 q.2.2.2.1 q.2.2.2.2
theorem OwnA.nil (X : World) (B : Nat) : OwnA X B (.slice none 0 0) 0 [] := ⟨[], rfl, rfl, World.ownsRow_nil _ _ _ _, fun q h => by cases h⟩
theorem OwnA.up {X Y : World} {B : Nat} {v : Value} {k : Nat} {l : List ActP} (h : OwnA X B v k l) (hb : Below X.heap.size X Y) : OwnA Y B v k l := by
 obtain ⟨qs, h1, h2, h3, h4⟩ := h
 exact ⟨qs, h1, h2, lown_up h3 hb, fun q hq => (h4 q hq).up hb⟩
theorem OwnA.acts {X : World} {B : Nat} {v : Value} {k : Nat} {l : List ActP} (h : OwnA X B v k l) : ∃ A c, v = .slice A k c ∧ ActsT X A k c l := by
 obtain ⟨qs, h1, h2, h3, h4⟩ := h
 obtain ⟨A, c, rfl, hc1, hc2⟩ := own_form h3
 refine ⟨A, c, rfl, by rw [← h1, List.length_map, h2], hc1, hc2, fun e => ?_, TyAt.of_own h3, fun hk => ?_⟩
 ·subst e
  rcases h3.2 with ⟨h, hk⟩ | ⟨g, cap, cur, h, _⟩
  ·injection h with _ _ hc
   exact ⟨hk, hc⟩
  ·cases h
 ·obtain ⟨g, c', hv, _, _, _, _⟩ := own_pos h3 hk
  injection hv with hv
  subst hv
  refine ⟨g, 0, rfl, fun i a ha => ?_⟩
  rw [← h1, List.getElem?_map] at ha
  obtain ⟨q, hq, rfl⟩ := Option.map_eq_some_iff.1 ha
  refine ⟨_, _, _, _, _, _, fun j v hv => ?_, h4 q (List.mem_of_getElem? hq)⟩
  have hr := rowA_at qs i q j v hq hv
  rw [Nat.zero_add, h3.cellAt (i * 9 + j) (by rw [← h3.1]; exact (List.getElem?_eq_some_iff.1 hr).1)]
  exact hr
theorem OwnA.app {X Y : World} {B : Nat} {v v' : Value} {k : Nat} {qs : List ActQ} {a : ActP} {Ar : Option Addr} {nr cr : Nat} {D : Option Addr} {nd cd : Nat} (h2 : qs.length = k) (h3 : X.ownsRow B 29 9 v k (rowA qs))
  (h4 : ∀ q ∈ qs, ArgT X q.1 q.2.1.1 q.2.1.2.1 q.2.1.2.2 q.2.2.1 q.2.2.2.1 q.2.2.2.2) (ha : ArgT X a Ar nr cr D nd cd) (hg : X.grownBy Y v.ownBlock)
  (ho : Y.ownsRow B 29 9 v' (k + 1) (rowA qs ++ (a.cells Ar nr cr D nd cd).toList)) : OwnA Y B v' (k + 1) (qs.map (·.1) ++ [a]) := by
 have hk : KT 29 X Y := KT.grown hg h3
 refine ⟨qs ++ [(a, (Ar, nr, cr), (D, nd, cd))], by simp, by simp [h2], ?_, fun q hq => ?_⟩
 ·have e : rowA (qs ++ [(a, (Ar, nr, cr), (D, nd, cd))]) = rowA qs ++ (a.cells Ar nr cr D nd cd).toList := by simp [rowA, ActQ.cells]
  rw [e]
  exact ho
 ·rcases List.mem_append.1 hq with h | h
  ·exact (h4 q h).kt hk (by decide) (by decide)
  ·obtain rfl := List.mem_singleton.1 h
   exact ha.kt hk (by decide) (by decide)
def LsT (W : World) (L : Option Addr) (n c : Nat) (ll : List (List ActP)) : Prop :=
 ll.length = n ∧ n ≤ c ∧ c ≤ maxLen ∧ (L = none → n = 0 ∧ c = 0) ∧ TyAt W 25 L ∧ (0 < n → ∃ g off, L = some ⟨g, off, none⟩ ∧ ∀ (i : Nat) (l : List ActP), ll[i]? = some l → ∃ A m c', W.cell? ⟨g, off + i, none⟩ = some (.slice A m c') ∧ ActsT W A m c' l)
theorem LsT.up {w w' : World} {L : Option Addr} {n c : Nat} {ll : List (List ActP)} (h : LsT w L n c ll) (hb : Below w.heap.size w w') : LsT w' L n c ll := by
 obtain ⟨h1, h2, h3, h4, ht, h5⟩ := h
 refine ⟨h1, h2, h3, h4, ht.up hb, fun hn => ?_⟩
 obtain ⟨g, off, e, hc⟩ := h5 hn
 obtain ⟨cs, hcs⟩ := ht _ e
 refine ⟨g, off, e, fun i l hi => ?_⟩
 obtain ⟨A, m, c', k1, k2⟩ := hc i l hi
 exact ⟨A, m, c', (hb.cell (p := ⟨g, off + i, none⟩) (Array.getElem?_eq_some_iff.1 hcs).1).trans k1, k2.up hb⟩
theorem LsT.kt {T : TypeId} {w w' : World} {L : Option Addr} {n c : Nat} {ll : List (List ActP)} (h : LsT w L n c ll) (k : KT T w w') (h0 : 25 ≠ T) (q1 : 29 ≠ T) (q2 : 45 ≠ T) (q3 : 5 ≠ T) : LsT w' L n c ll := by
 obtain ⟨h1, h2, h3, h4, ht, h5⟩ := h
 refine ⟨h1, h2, h3, h4, ht.kt k h0, fun hn => ?_⟩
 obtain ⟨g, off, e, hc⟩ := h5 hn
 obtain ⟨cs, hcs⟩ := ht _ e
 refine ⟨g, off, e, fun i l hi => ?_⟩
 obtain ⟨A, m, c', k1, k2⟩ := hc i l hi
 exact ⟨A, m, c', (World.cell?_of_block (a := ⟨g, off + i, none⟩) (k.2 _ _ _ hcs h0)).trans k1, k2.kt k q1 q2 q3⟩
def ScrI (W : World) (g : Nat) (ll : List (List ActP)) : Prop := ∃ L n c, Held W g 102 #[.slice L n c] ∧ LsT W L n c ll
theorem ScrI.up {w w' : World} {g : Nat} {ll : List (List ActP)} (h : ScrI w g ll) (hb : Below w.heap.size w w') : ScrI w' g ll := by
 obtain ⟨L, n, c, h1, h2⟩ := h
 exact ⟨L, n, c, h1.below hb h1.lt, h2.up hb⟩
abbrev SlQ := Option Addr × Nat × Nat
def SlQ.val (s : SlQ) : Value := .slice s.1 s.2.1 s.2.2
def OutI (W : World) (B : Nat) (v : Value) (i : Nat) (ls : List (List ActP)) : Prop := ∃ ss : List SlQ, ss.length = i ∧ ls.length = i ∧ W.ownsRow B 25 1 v i (ss.map SlQ.val) ∧ ∀ (j : Nat) (s : SlQ) (l : List ActP), ss[j]? = some s → ls[j]? = some l → ActsT W s.1 s.2.1 s.2.2 l
theorem OutI.nil (W : World) (B : Nat) : OutI W B (.slice none 0 0) 0 [] := ⟨[], rfl, rfl, World.ownsRow_nil _ _ _ _, fun j s l h => by cases h⟩
theorem OutI.up {X Y : World} {B : Nat} {v : Value} {i : Nat} {ls : List (List ActP)} (h : OutI X B v i ls) (hb : Below X.heap.size X Y) : OutI Y B v i ls := by
 obtain ⟨ss, h1, h2, h3, h4⟩ := h
 exact ⟨ss, h1, h2, lown_up h3 hb, fun j s l q1 q2 => (h4 j s l q1 q2).up hb⟩
theorem OutI.app {X Y : World} {B : Nat} {v v' : Value} {i : Nat} {ss : List SlQ} {ls : List (List ActP)} {A : Option Addr} {m c : Nat} {l : List ActP} (h1 : ss.length = i) (h2 : ls.length = i) (h3 : X.ownsRow B 25 1 v i (ss.map SlQ.val))
  (h4 : ∀ (j : Nat) (s : SlQ) (l : List ActP), ss[j]? = some s → ls[j]? = some l → ActsT X s.1 s.2.1 s.2.2 l) (ha : ActsT X A m c l) (hg : X.grownBy Y v.ownBlock)
  (ho : Y.ownsRow B 25 1 v' (i + 1) (ss.map SlQ.val ++ [.slice A m c])) : OutI Y B v' (i + 1) (ls ++ [l]) := by
 have hk : KT 25 X Y := KT.grown hg h3
 refine ⟨ss ++ [(A, m, c)], by simp [h1], by simp [h2], ?_, fun j s l' q1 q2 => ?_⟩
 ·rw [List.map_append]; exact ho
 ·by_cases hj : j < i
  ·rw [List.getElem?_append_left (by omega)] at q1 q2
   exact (h4 j s l' q1 q2).kt hk (by decide) (by decide) (by decide)
  ·rw [List.getElem?_append_right (by omega)] at q1 q2
   obtain ⟨e, hs⟩ : j - ss.length = 0 ∧ (A, m, c) = s := by
    have hlt := (List.getElem?_eq_some_iff.1 q1).1
    have e : j - ss.length = 0 := by simp at hlt; omega
    rw [e] at q1
    exact ⟨e, by simpa using q1⟩
   subst hs
   rw [h2, ← h1, e] at q2
   obtain rfl : l = l' := by simpa using q2
   exact ha.kt hk (by decide) (by decide) (by decide)
theorem OutI.kt {T : TypeId} {X Y : World} {B : Nat} {v : Value} {i : Nat} {ls : List (List ActP)} (h : OutI X B v i ls) (k : KT T X Y) (h0 : 25 ≠ T) (q1 : 29 ≠ T) (q2 : 45 ≠ T) (q3 : 5 ≠ T) : OutI Y B v i ls := by
 obtain ⟨ss, h1, h2, h3, h4⟩ := h
 refine ⟨ss, h1, h2, lown_same h3 fun b hb => ?_, fun j s l e1 e2 => (h4 j s l e1 e2).kt k q1 q2 q3⟩
 rcases h3.2 with ⟨rfl, _⟩ | ⟨g, cap, cur, rfl, _, h5, _⟩
 ·cases hb
 ·injection hb with hb
  subst hb
  exact k.2 _ _ _ h5 h0
theorem OutI.ls {X : World} {B : Nat} {v : Value} {i : Nat} {ls : List (List ActP)} (h : OutI X B v i ls) : ∃ L c, v = .slice L i c ∧ LsT X L i c ls := by
 obtain ⟨ss, h1, h2, h3, h4⟩ := h
 obtain ⟨A, c, rfl, hc1, hc2⟩ := own_form h3
 refine ⟨A, c, rfl, h2, hc1, hc2, fun e => ?_, TyAt.of_own h3, fun hk => ?_⟩
 ·subst e
  rcases h3.2 with ⟨h, hk⟩ | ⟨g, cap, cur, h, _⟩
  ·injection h with _ _ hc
   exact ⟨hk, hc⟩
  ·cases h
 ·obtain ⟨g, c', hv, _, _, _, _⟩ := own_pos h3 hk
  injection hv with hv
  subst hv
  refine ⟨g, 0, rfl, fun j l hj => ?_⟩
  have hji : j < ss.length := by rw [h1, ← h2]; exact (List.getElem?_eq_some_iff.1 hj).1
  refine ⟨(ss[j]).1, (ss[j]).2.1, (ss[j]).2.2, ?_, h4 j _ l (List.getElem?_eq_getElem hji) hj⟩
  rw [Nat.zero_add, h3.cellAt j (by omega), List.getElem?_map, List.getElem?_eq_getElem hji]
  rfl
def LsI (W : World) (L : Option Addr) (n c : Nat) (ll : List (List ActP)) : Prop :=
 ll.length = n ∧ n ≤ c ∧ c ≤ maxLen ∧ (L = none → n = 0 ∧ c = 0) ∧ (0 < n → ∃ g off, L = some ⟨g, off, none⟩ ∧ g < W.heap.size ∧ ∀ (i : Nat) (l : List ActP), ll[i]? = some l → ∃ A m c', W.cell? ⟨g, off + i, none⟩ = some (.slice A m c') ∧ ActsI W A m c' l)
theorem LsI.up {w w' : World} {L : Option Addr} {n c : Nat} {ll : List (List ActP)} (h : LsI w L n c ll) (hb : Below w.heap.size w w') : LsI w' L n c ll := by
 obtain ⟨h1, h2, h3, h4, h5⟩ := h
 refine ⟨h1, h2, h3, h4, fun hn => ?_⟩
 obtain ⟨g, off, e, hg, hc⟩ := h5 hn
 refine ⟨g, off, e, Nat.lt_of_lt_of_le hg hb.size, fun i l hi => ?_⟩
 obtain ⟨A, m, c', k1, k2⟩ := hc i l hi
 exact ⟨A, m, c', (hb.cell (p := ⟨g, off + i, none⟩) hg).trans k1, k2.up hb⟩
end Go.Proofs.YtcipleanckeoaaaDoor
