/- What (*Sha).Write keeps; what stands between two rounds of its loop. -/
import Derived.Test.YtjkhkgdijnhdmaaDoorShaBlocks
import Derived.Test.YtjkhkgdijnhdmaaDoorRound
import Derived.Deep.RegionHeld3
import Derived.BigRegion
namespace Go.Proofs.YtjkhkgdijnhdmaaDoor
open Go.RowKit
attribute [local go_sem] Oper.semAt_some

/-- All that lay is kept, but block g, and v's. -/
structure KeepW (w w' : World) (g : Nat) (v : Value) : Prop where
  os : w'.os = w.os
  tape : w'.tape = w.tape
  output : w'.output = w.output
  size : w.heap.size ≤ w'.heap.size
  block : ∀ k, k < w.heap.size → k ≠ g → some k ≠ v.ownBlock → w'.heap[k]? = w.heap[k]?
theorem KeepW.refl (w : World) (g : Nat) (v : Value) : KeepW w w g v := ⟨rfl, rfl, rfl, Nat.le_refl _, fun _ _ _ _ => rfl⟩
theorem KeepW.trans {a b c : World} {g : Nat} {v : Value} (h : KeepW a b g v) (k : KeepW b c g v) : KeepW a c g v :=
  ⟨k.os.trans h.os, k.tape.trans h.tape, k.output.trans h.output, Nat.le_trans h.size k.size, fun j hj h1 h2 => (k.block j (Nat.lt_of_lt_of_le hj h.size) h1 h2).trans (h.block j hj h1 h2)⟩
theorem KeepW.of_below {w w' : World} (h : Below w.heap.size w w') (g : Nat) (v : Value) : KeepW w w' g v := ⟨h.os, h.tape, h.output, h.size, fun k hk _ _ => h.block k hk⟩
/-- What turns no block of w's but these. -/
theorem KeepW.grown {w a b : World} {g : Nat} {v : Value} {row : Option Nat} (h : KeepW w a g v) (hg : a.grownBy b row) (hr : ∀ r, row = some r → r = g ∨ some r = v.ownBlock ∨ w.heap.size ≤ r) : KeepW w b g v :=
  ⟨hg.os.trans h.os, hg.tape.trans h.tape, hg.output.trans h.output, Nat.le_trans h.size hg.size, fun j hj h1 h2 => (hg.block j (Nat.lt_of_lt_of_le hj h.size) (fun e => by
    rcases hr j e.symm with h3 | h3 | h3
    · exact h1 h3
    · exact h2 h3
    · omega)).trans (h.block j hj h1 h2)⟩
theorem KeepW.alloc {w a : World} {g : Nat} {v : Value} (h : KeepW w a g v) (o : Obj) : KeepW w (a.alloc o) g v := h.grown (World.grownBy_alloc a o none) (fun _ e => by cases e)
theorem KeepW.drew {w a : World} {g : Nat} {v : Value} (h : KeepW w a g v) : KeepW w a.drew g v := ⟨h.os, h.tape, h.output, h.size, h.block⟩
theorem KeepW.cells {w a : World} {g : Nat} {v : Value} (h : KeepW w a g v) {p : Addr} (hp : p.block < w.heap.size) (h1 : p.block ≠ g) (h2 : some p.block ≠ v.ownBlock) : a.cell? p = w.cell? p := by
  unfold World.cell?; rw [h.block _ hp h1 h2]

theorem own_same {w w' : World} {base : Nat} {e : TypeId} {size n : Nat} {v : Value} {xs : List Value} (h : w.ownsRow base e size v n xs) (hb : ∀ b, v.ownBlock = some b → w'.heap[b]? = w.heap[b]?) : w'.ownsRow base e size v n xs := by
  refine ⟨h.1, ?_⟩
  rcases h.2 with h2 | ⟨g, cap, cur, hv, hg, hh, r⟩
  · exact .inl h2
  · exact .inr ⟨g, cap, cur, hv, hg, (hb g (by rw [hv]; rfl)).trans hh, r⟩

theorem SlI.keepA {w w' : World} {B B' : Nat} {k : IntKind} {A : Option Addr} {n c : Nat} {xs : List Int} (h : SlI w B k A n c xs) (hB : B ≤ B') (hk : 0 < xs.length → ∀ a, A = some a → a.block < B → w'.heap[a.block]? = w.heap[a.block]?) : SlI w' B' k A n c xs := by
  refine ⟨h.1, h.2.1, h.2.2.1, h.2.2.2.1, fun hn => ?_⟩
  obtain ⟨g, off, e, hg, hc⟩ := h.2.2.2.2 hn
  refine ⟨g, off, e, by omega, fun i x hx => ?_⟩
  rw [← hc i x hx]
  unfold World.cell?
  rw [hk hn _ e hg]

theorem begin_any (g : Nat) (s : Sh.St) (bg : Bool) (all : List Nat) (v : Value) (n : Nat) (w : World) (hT : Tab w 0 .u32 firstI) (hg : 0 ≠ g) (hX : Held w g 30 (shC s v n bg)) (hs : StOf s bg all) :
    Calls Tryd.prog 37 #[.pointer (some ⟨g, 0, none⟩)] w fun e w' => (∃ u, e = .returned u) ∧ Held w' g 30 (shC (Sh.stateOf all) v n true) ∧ w.grownBy w' (some g) := by
  rcases hs with ⟨rfl, rfl⟩ | ⟨rfl, rfl, rfl⟩
  · exact (begin_yes g _ v n w hX).mono fun e w' ⟨h1, h2⟩ => ⟨h1, by rw [h2]; exact hX, by rw [h2]; exact World.grownBy.refl _ _⟩
  · exact begin_no g v n w hT hg hX
theorem infoB : (Tryd.prog.info? 5).map (fun i => (i.zero, i.size, i.bytes)) = some (some (.int .u8 0), 1, 1) := by kernel_rfl


/-- What is left behind k blocks: a slice of its own, of n bytes, at block ga. -/
def curV (A1 : Option Addr) (ga n c k : Nat) : Value := if k = 0 then .slice A1 n c else .slice (some ⟨ga, behO 0 c (k - 1), none⟩) (n - 64 * (k - 1) - 64) (c - 64 * (k - 1) - 64)
theorem curV_zero (A1 : Option Addr) (ga n c : Nat) : curV A1 ga n c 0 = .slice A1 n c := rfl
theorem curV_succ (A1 : Option Addr) (ga n c k : Nat) : curV A1 ga n c (k + 1) = .slice (some ⟨ga, behO 0 c k, none⟩) (n - 64 * k - 64) (c - 64 * k - 64) := rfl
theorem nI_drop (l : List Nat) (n : Nat) : nI (l.drop n) = (nI l).drop n := by unfold nI; rw [List.map_drop]
theorem nI_take (l : List Nat) (n : Nat) : nI (l.take n) = (nI l).take n := by unfold nI; rw [List.map_take]
/-- What is left reads as what is left of the bytes. -/
theorem cur_sl {W : World} {B : Nat} {A1 : Option Addr} {ga c k : Nat} {l : List Nat} (h : SlI W B .u8 A1 l.length c (nI l)) (hA : 64 ≤ l.length → A1 = some ⟨ga, 0, none⟩) (hk : k ≤ l.length / 64) :
    ∃ A' c', curV A1 ga l.length c k = .slice A' (l.drop (64 * k)).length c' ∧ SlI W B .u8 A' (l.drop (64 * k)).length c' (nI (l.drop (64 * k))) := by
  cases k with
  | zero => exact ⟨A1, c, by simp [curV], by simpa using h⟩
  | succ k =>
    obtain rfl := hA (by omega)
    have hlc := h.2.1
    have hcm := h.2.2.1
    refine ⟨some ⟨ga, behO 0 c k, none⟩, c - 64 * k - 64, by rw [curV_succ, List.length_drop, show l.length - 64 * k - 64 = l.length - 64 * (k + 1) by omega], ?_⟩
    unfold behO
    split
    · rename_i hz
      have e : l.drop (64 * (k + 1)) = [] := List.drop_of_length_le (by omega)
      rw [e]
      exact ⟨rfl, by simp, by omega, (fun e => by cases e), RdI.nil⟩
    · have h2 := h.drop (64 * (k + 1)) (by omega)
      rw [List.length_drop, nI_drop, show 0 + 64 * k + 64 = 0 + 64 * (k + 1) by omega, show c - 64 * k - 64 = c - 64 * (k + 1) by omega]
      exact h2
/-- A block of what is left. -/
theorem block_rd {W : World} {B : Nat} {ga c k : Nat} {l : List Nat} (h : SlI W B .u8 (some ⟨ga, 0, none⟩) l.length c (nI l)) (hk : k < l.length / 64) :
    RdI W B .u8 (some ⟨ga, 0 + 64 * k, none⟩) (nI ((l.drop (64 * k)).take 64)) := by
  rw [nI_take, nI_drop]
  exact ((h.drop (64 * k) (by omega)).2.2.2.2).take 64

/-- Between two rounds. -/
def LoopI (w : World) (B g Bp Bl : Nat) (v : Value) (A1 : Option Addr) (ga c N : Nat) (s : Sh.St) (l : List Nat) (k : Nat) (W : World) : Prop :=
  Held W g 30 (shC (Sh.after l s k) v N true) ∧ Held W Bp 24 #[.pointer (some ⟨g, 0, none⟩)] ∧ Held W Bl 27 #[curV A1 ga l.length c k] ∧
  W.ownsRow B 5 1 (.slice A1 l.length c) l.length ((nI l).map (Value.int .u8)) ∧ KeepW w W g v ∧ Bl + 2 ≤ W.heap.size
theorem LoopI.grown {w X Y : World} {B g Bp Bl : Nat} {v : Value} {A1 : Option Addr} {ga c N : Nat} {s : Sh.St} {l : List Nat} {k : Nat} {row : Option Nat} (h : LoopI w B g Bp Bl v A1 ga c N s l k X) (hg : X.grownBy Y row)
    (hr : ∀ r, row = some r → Bl < r) (h1 : g < Bl) (h2 : Bp < Bl) (h3 : w.heap.size ≤ Bl) (h4 : ∀ b, (Value.slice A1 l.length c).ownBlock = some b → b < Bl) : LoopI w B g Bp Bl v A1 ga c N s l k Y := by
  obtain ⟨a1, a2, a3, a4, a5, a6⟩ := h
  refine ⟨a1.kept hg (fun e => ?_), a2.kept hg (fun e => ?_), a3.kept hg (fun e => ?_), ?_, a5.grown hg (fun r e => ?_), Nat.le_trans a6 hg.size⟩
  · have := hr _ e.symm; omega
  · have := hr _ e.symm; omega
  · have := hr _ e.symm; omega
  · refine own_same a4 fun b hb => hg.block b ?_ (fun e => ?_)
    · exact (a4.lt b hb).2
    · have := hr _ e.symm; have := h4 b hb; omega
  · have := hr _ e; exact .inr (.inr (by omega))
theorem grownBy_drew' (X : World) : X.grownBy X.drew none := ⟨rfl, rfl, rfl, Nat.le_refl _, fun _ _ _ => rfl⟩
theorem setCells_st (W : World) (g : Nat) (s' : Sh.St) : W.setCells g 0 (stC s').toList = ((((((((W.setCell ⟨g, 0, none⟩ (.int .u32 (s'.a : Nat))).setCell ⟨g, 1, none⟩ (.int .u32 (s'.b : Nat))).setCell ⟨g, 2, none⟩ (.int .u32 (s'.c : Nat))).setCell ⟨g, 3, none⟩ (.int .u32 (s'.d : Nat))).setCell ⟨g, 4, none⟩ (.int .u32 (s'.e : Nat))).setCell ⟨g, 5, none⟩ (.int .u32 (s'.f : Nat))).setCell ⟨g, 6, none⟩ (.int .u32 (s'.g : Nat))).setCell ⟨g, 7, none⟩ (.int .u32 (s'.h : Nat))) := rfl
theorem shC_st (s s' : Sh.St) (v : Value) (N : Nat) (bg : Bool) : (((((((((shC s v N bg).setIfInBounds 0 (.int .u32 (s'.a : Nat))).setIfInBounds 1 (.int .u32 (s'.b : Nat))).setIfInBounds 2 (.int .u32 (s'.c : Nat))).setIfInBounds 3 (.int .u32 (s'.d : Nat))).setIfInBounds 4 (.int .u32 (s'.e : Nat))).setIfInBounds 5 (.int .u32 (s'.f : Nat))).setIfInBounds 6 (.int .u32 (s'.g : Nat))).setIfInBounds 7 (.int .u32 (s'.h : Nat))) = shC s' v N bg := by simp [shC]
theorem held_setCells {W : World} {g : Nat} {s s' : Sh.St} {v : Value} {N : Nat} {bg : Bool} (h : Held W g 30 (shC s v N bg)) : Held (W.setCells g 0 (stC s').toList) g 30 (shC s' v N bg) := by
  rw [setCells_st, ← shC_st s s' v N bg]
  exact ((((((((h.set 0 (.int .u32 (s'.a : Nat))).set 1 (.int .u32 (s'.b : Nat))).set 2 (.int .u32 (s'.c : Nat))).set 3 (.int .u32 (s'.d : Nat))).set 4 (.int .u32 (s'.e : Nat))).set 5 (.int .u32 (s'.f : Nat))).set 6 (.int .u32 (s'.g : Nat))).set 7 (.int .u32 (s'.h : Nat)))
theorem grownBy_setCells (g : Nat) : ∀ (vs : List Value) (o : Nat) {A W : World}, A.grownBy W (some g) → A.grownBy (W.setCells g o vs) (some g)
  | [], _, _, _, h => h
  | v :: r, o, _, _, h => by
    rw [World.setCells]
    exact grownBy_setCells g r (o + 1) (grownBy_set h rfl v)
theorem Held.there8 {W : World} {g : Nat} {s : Sh.St} {v : Value} {N : Nat} {bg : Bool} (h : Held W g 30 (shC s v N bg)) (t : Sh.St) : W.there g 0 (stC t).size := fun j hj => by
  have hj' : j < 8 := hj
  refine ⟨?_, h.frozen _⟩
  rw [h.cell, Nat.zero_add]
  have : j = 0 ∨ j = 1 ∨ j = 2 ∨ j = 3 ∨ j = 4 ∨ j = 5 ∨ j = 6 ∨ j = 7 := by omega
  rcases this with rfl | rfl | rfl | rfl | rfl | rfl | rfl | rfl <;> rfl
theorem KeepsFrom.below {B : Nat} {W W' : World} (h : Below W.heap.size W W') : KeepsFrom B W W' := ⟨h.size, fun k _ _ hk _ => (h.block k (Array.getElem?_eq_some_iff.1 hk).1).trans hk⟩
/-- 'The list begins with an append': to be tried with reducible words alone: fails at once elsewhere. -/
theorem at_append {P : Program} {ops : Array Oper} {Q : Exit → Act → World → Prop} {dst : Option Tmp} {s x : Operand} {t ty : TypeId} {pos : String} {af : Array Edge} {rest : List Oper} {a : Act} {w : World}
    (h : wpList P ops Q ({ dst := dst, op := .call { callee := .builtin .append, args := #[s, x], argTypes := #[t, t] }, type := ty, pos := pos, after := af, guard := none } :: rest) a w) :
    wpList P ops Q ({ dst := dst, op := .call { callee := .builtin .append, args := #[s, x], argTypes := #[t, t] }, type := ty, pos := pos, after := af, guard := none } :: rest) a w := h
theorem postW_notOut {B : Nat} {Kp : World → World → Prop} {I : Nat → World → Prop} {Ix : Code → Nat → World → Prop} {k : Nat} {W : World} (id : Nat) : ¬ LetsOut (Exit.inBlock id (postW B Kp I Ix k W)) := by
  rintro ⟨a, w, h⟩
  exact h
end Go.Proofs.YtjkhkgdijnhdmaaDoor
