/- What ledger.Lines tells; worlds along it; marks of ranges over functions. -/
import Derived.Test.YtjcpgnachkhjaaaDoorLedBands
import Derived.Test.YtjcpgnachkhjaaaDoorLedWords
import Derived.Test.YtjcpgnachkhjaaaDoorLedCheck
import Derived.Test.YtjcpgnachkhjaaaDoorRound
namespace Go.Proofs.YtjcpgnachkhjaaaDoor
open Go.RowKit Go.Shelf Go.Sort
attribute [local go_sem] Oper.semAt_some
set_option linter.unusedVariables false

def bandLine (b : Bk) (m : Nat) (k : Fin 8) : List UInt8 :=
  [98, 97, 110, 100] ++ Lib.trimPrefix (wordsL [(k.1 : Int), (b.totAt m k.1).energy, (b.totAt m k.1).cost]) [109, 101, 116, 101, 114] ++ [32, 109, 97, 110, 121, 32] ++ Lib.itoa (b.totAt m k.1).many
def sumL (m : Nat) (s : SumS) : List Int := [(m : Int), s.energy, s.cost, s.intervals, s.flagged, s.suspects, s.replaced, s.corrected]
def meterLines (b : Bk) (m : Nat) : List (List UInt8) := wordsL (sumL m (b.sumAt m)) :: (bandN b m 8).map (bandLine b m)
def linesN (b : Bk) (i : Nat) : List (List UInt8) := ((metN b 64).take i).flatMap (meterLines b)
def linesL (b : Bk) : List (List UInt8) := (metN b 64).flatMap (meterLines b)
theorem linesN_succ (b : Bk) (i m : Nat) (h : (metN b 64)[i]? = some m) : linesN b (i + 1) = linesN b i ++ meterLines b m := by
  unfold linesN
  rw [List.take_add_one, h, List.flatMap_append]
  simp
theorem meterLines_len (b : Bk) (m : Nat) : (meterLines b m).length ≤ 9 := by
  unfold meterLines
  rw [List.length_cons, List.length_map]
  have := bandN_len b m 8
  omega
theorem linesN_len (b : Bk) (i : Nat) (h : i ≤ 64) : (linesN b i).length ≤ 576 := by
  have key : ∀ l : List Nat, (l.flatMap (meterLines b)).length ≤ 9 * l.length := by
    intro l
    induction l with
    | nil => simp
    | cons m l ih =>
      rw [List.flatMap_cons, List.length_append, List.length_cons]
      have := meterLines_len b m
      omega
  have h1 := key ((metN b 64).take i)
  have h2 : ((metN b 64).take i).length ≤ i := by rw [List.length_take]; omega
  unfold linesN
  omega
theorem words_len (l : List Int) (hl8 : l.length ≤ 8) (hin : ∀ x ∈ l, -9223372036854775808 ≤ x ∧ x ≤ 9223372036854775807) : (wordsL l).length ≤ 1000 := by
  have h := join_len [32] 31 (fun _ _ => by simp) (partsN l l.length) (fun x hx => by
    unfold partsN at hx
    obtain ⟨i, hi, rfl⟩ := List.mem_map.1 hx
    have h1 := nmL_len i
    have hm := hin (l.getD i 0) (getD_mem _ _ _ (List.mem_range.1 hi))
    have h2 := Lib.itoa_length_le _ hm.1 hm.2
    unfold partL
    simp only [List.length_append, List.length_cons, List.length_nil]
    omega)
  rw [partsN_len] at h
  unfold wordsL
  omega
theorem trim_len (a p : List UInt8) : (Lib.trimPrefix a p).length ≤ a.length := by
  unfold Lib.trimPrefix
  split
  · simp
  · exact Nat.le_refl _
/-- Slices of strings. -/
def StrsI (W : World) (A : Option Addr) (n : Nat) (l : List (List UInt8)) : Prop := n = l.length ∧ ∀ j x, l[j]? = some x → ∃ g o, A = some ⟨g, o, none⟩ ∧ W.cell? ⟨g, o + j, none⟩ = some (strV x)
theorem StrsI.up {W W' : World} {A : Option Addr} {n : Nat} {l : List (List UInt8)} (h : StrsI W A n l) (hb : Below W.heap.size W W') : StrsI W' A n l :=
  ⟨h.1, fun j x hj => by
    obtain ⟨g, o, h1, h2⟩ := h.2 j x hj
    exact ⟨g, o, h1, (hb.cell (p := ⟨g, o + j, none⟩) (World.block_lt_of_cell? W _ h2)).trans h2⟩⟩
theorem StrsI.of_own {W : World} {base : Nat} {e : TypeId} {v : Value} {n : Nat} {l : List (List UInt8)} (h : W.ownsRow base e 1 v n (l.map strV)) : ∃ A c, v = .slice A n c ∧ StrsI W A n l := by
  have hl : l.length = n := by have := h.1; simpa using this
  rcases h.2 with ⟨rfl, rfl⟩ | ⟨g, cap, cur, rfl, hb, hh, h1, h2, r⟩
  · exact ⟨none, 0, rfl, hl.symm, fun j x hj => by have := (List.getElem?_eq_some_iff.1 hj).1; omega⟩
  · refine ⟨_, cap, rfl, hl.symm, fun j x hj => ⟨g, 0, rfl, ?_⟩⟩
    have hjl := (List.getElem?_eq_some_iff.1 hj).1
    rw [Nat.zero_add, h.cellAt j (by omega), List.getElem?_map, hj]; rfl

/-- What lies below a block is kept but for one block, and whatever is no cells. -/
def Lx (g B : Nat) (A C : World) : Prop := Kx g B A C ∧ KeepsOthers A C
theorem Lx.refl (g B : Nat) (A : World) : Lx g B A A := ⟨Kx.refl _ _ _, KeepsOthers.refl _⟩
theorem Lx.trans {g B : Nat} {X Y Z : World} (h : Lx g B X Y) (k : Lx g B Y Z) : Lx g B X Z := ⟨h.1.trans k.1, h.2.trans k.2⟩
theorem keepsOthers_below {X Y : World} (h : Below X.heap.size X Y) : KeepsOthers X Y := ⟨h.size, fun k o hk _ => (h.block k (Array.getElem?_eq_some_iff.1 hk).1).trans hk⟩
theorem Lx.below {g B : Nat} {X Y : World} (h : Below X.heap.size X Y) (hg : g ≤ B) (hB : B ≤ X.heap.size) : Lx g B X Y := ⟨Kx.of_below (h.mono hB) hg, keepsOthers_below h⟩
theorem Lx.set {g B : Nat} (X : World) (i : Nat) (v : Value) : Lx g B X (X.setCell ⟨g, i, none⟩ v) := ⟨(Kx.refl g B X).set i v, KeepsOthers.setCell _ _ _⟩
theorem Lx.drew {g B : Nat} {X Y : World} (h : Lx g B X Y) : Lx g B X Y.drew := ⟨h.1.drew, h.2.trans (KeepsOthers.drew _)⟩
theorem Lx.own {g B : Nat} {X Y : World} {e : TypeId} {size n : Nat} {v : Value} {xs : List Value} (hr : X.ownsRow B e size v n xs) (hg : X.grownBy Y v.ownBlock) (hgB : g ≤ B) (hB : B ≤ X.heap.size) : Lx g B X Y := by
  refine ⟨⟨(Below.refl _ X).grown hg (by omega) (fun k hk => by have := (hr.lt k hk).1; omega), fun k h1 h2 => hg.block k (by omega) (fun e => by have := (hr.lt k e.symm).1; omega)⟩, KeepsOthers.of_grownBy hg fun j o ej hj => ?_⟩
  rcases hr.2 with ⟨rfl, _⟩ | ⟨g', cap, cur, rfl, _, hgb, _⟩
  · simp [Value.ownBlock] at ej
  · obtain rfl : g' = j := by simpa [Value.ownBlock] using ej
    rw [hgb] at hj; cases hj; rfl
theorem Lx.held {g B k : Nat} {t : TypeId} {cs : Array Value} {X Y : World} (h : Lx g B X Y) (hk : k ≠ g) (hB : k < B) (hh : Held X k t cs) : Held Y k t cs := (h.1.2 k hk hB).trans hh
theorem Lx.size {g B : Nat} {X Y : World} (h : Lx g B X Y) : X.heap.size ≤ Y.heap.size := h.2.size
theorem Lx.cell {g B : Nat} {X Y : World} (h : Lx g B X Y) {p : Addr} (hk : p.block ≠ g) (hB : p.block < B) : Y.cell? p = X.cell? p := h.1.cell hk hB

/-- A post that lets no panic by. -/
def noPanic (Q : Exit → Act → World → Prop) : Exit → Act → World → Prop
  | .panic _, _, _ => False
  | e, a, w => Q e a w
theorem wp_noPanic {P : Program} {c : Code} {Q : Exit → Act → World → Prop} {a : Act} {w : World} (h : c.wp P (noPanic Q) a w) : c.wp P Q a w :=
  Code.wp_mono (fun e a w q => by cases e <;> first | exact q | exact q.elim) h
theorem noPanic_normal {Q : Exit → Act → World → Prop} {a : Act} {w : World} (h : Q .normal a w) : noPanic Q .normal a w := h
/-- A post of the normal way alone: a cut. -/
def onlyNormal (R : Act → World → Prop) : Exit → Act → World → Prop
  | .normal, a, w => R a w
  | _, _, _ => False
theorem wp_cut_normal {P : Program} {c : Code} {Q : Exit → Act → World → Prop} {a : Act} {w : World} (R : Act → World → Prop) (h : c.wp P (onlyNormal R) a w) (k : ∀ a w, R a w → Q .normal a w) : c.wp P Q a w :=
  Code.wp_mono (fun e a w q => by cases e <;> first | exact k _ _ q | exact q.elim) h
theorem onlyNormal_normal {R : Act → World → Prop} {a : Act} {w : World} (h : R a w) : onlyNormal R .normal a w := h
/-- Marks of ranges over functions. -/
def markD (D : Nat) : Deferred := { target := .collected D, args := #[] }
def Mk (B : Nat) (Ds : List Nat) (W : World) : Prop := Ds.Nodup ∧ ∀ D ∈ Ds, B ≤ D ∧ W.heap[D]? = some (.deferred (some []))
theorem Mk.nil (B : Nat) (W : World) : Mk B [] W := ⟨List.nodup_nil, fun D h => by cases h⟩
theorem Mk.keep {B : Nat} {Ds : List Nat} {W W' : World} (h : Mk B Ds W) (k : KeepsOthers W W') : Mk B Ds W' := ⟨h.1, fun D hD => ⟨(h.2 D hD).1, k.same D _ (h.2 D hD).2 rfl⟩⟩
theorem Mk.cons {B D : Nat} {Ds : List Nat} {W : World} (h : Mk B Ds W) (hD : B ≤ D) (hn : D ∉ Ds) (hk : W.heap[D]? = some (.deferred (some []))) : Mk B (D :: Ds) W :=
  ⟨List.nodup_cons.2 ⟨hn, h.1⟩, fun E hE => (List.mem_cons.1 hE).elim (fun e => by rw [e]; exact ⟨hD, hk⟩) (h.2 E)⟩
theorem leaves_marks {F : Fence} {n : Nat} {P : Program} {fn : Func} {tmps : Array Value} {R : Ending → World → Prop} {B : Nat} (C : World → Prop) (hC : ∀ W D, B ≤ D → W.heap[D]? = some (.deferred (some [])) → C W → C (W.putObj D (.deferred none)))
    (hR : ∀ W, C W → LeavesInM F n P fn tmps R [] .returning W) : ∀ (Ds : List Nat) (W : World), Mk B Ds W → C W → LeavesInM F n P fn tmps R (Ds.map markD) .returning W
  | [], W, _, h => hR W h
  | D :: Ds, W, hm, h => by
    have hD := hm.2 D (by simp)
    refine ⟨by simp, .inl ⟨_, _, rfl, run_takeDeferred hD.2, ?_⟩⟩
    refine leaves_marks C hC hR Ds _ ⟨(List.nodup_cons.1 hm.1).2, fun E hE => ⟨(hm.2 E (by simp [hE])).1, ?_⟩⟩ (hC W D hD.1 hD.2 h)
    have hne : E ≠ D := fun e => (List.nodup_cons.1 hm.1).1 (e ▸ hE)
    exact (World.putObj_heap_other (by omega)).trans (hm.2 E (by simp [hE])).2
theorem below_put {B D : Nat} {X W : World} (o : Obj) (h : Below B X W) (hD : B ≤ D) : Below B X (W.putObj D o) :=
  ⟨h.os, h.tape, h.output, by have := h.size; simpa [World.putObj] using this, fun k hk => (World.putObj_heap_other (by omega)).trans (h.block k hk)⟩
theorem own_put {W : World} {base D : Nat} {e : TypeId} {size n : Nat} {v : Value} {xs : List Value} {o o' : Obj} (h : W.ownsRow base e size v n xs) (hD : W.heap[D]? = some o) (hc : o.isCells = false) : (W.putObj D o').ownsRow base e size v n xs :=
  lown_same h fun g hg => World.putObj_heap_other (fun e2 => by
    rcases h.2 with ⟨rfl, _⟩ | ⟨g', cap, cur, rfl, _, hh, _⟩
    · simp [Value.ownBlock] at hg
    · obtain rfl : g' = g := by simpa [Value.ownBlock] using hg
      rw [e2] at hh
      rw [hD] at hh
      cases hh; cases hc)
end Go.Proofs.YtjcpgnachkhjaaaDoor
