/- A range over a function whose iterator tells what it has just made: the law of such a loop (SeqW's, turned). No program in sight. -/
import Derived.RangeFuncNested
import Derived.RangeFuncBox
import Derived.RangeFuncCalls
namespace Go.Proofs.YtnnknnaimabehaaDoor
open Go.RowKit

section
variable {F : Fence} {n : Nat} {P : Program}

/-- What an iterator promises whose k-th elements are some 'xs' that stand in R k to the world that they are told in; its own steps are 'Ab' (J must abide these). -/
def SeqR (F : Fence) (n : Nat) (P : Program) (gf : Nat) (lb : Array Value) (R : Nat → Array Value → World → Prop) (Kp Ab : World → World → Prop) (L T S Sp : Nat → Prop) (w : World) : Prop :=
  ∀ (l : Nat) (J Jx : Nat → World → Prop) (W : World), Below w.heap.size w W → (∀ s X X', Ab X X' → J s X → J s X') → (∀ s X X', Ab X X' → Jx s X → Jx s X') → (∀ s X, J s X → L s) →
    (∀ k xs X, T k → R k xs X → J k X → YieldAt F (n - 1) P l xs X fun e X' =>
      (e = .returned (.bool true) ∧ J (k + 1) X' ∧ Kp X X') ∨ (e = .returned (.bool false) ∧ Jx (k + 1) X')) →
    J 0 W →
    CallsIn F n P gf (#[.func (.yield l) #[] #[]] ++ lb) W fun e W' => (∃ v, e = .returned v) ∧ ((∃ k, S k ∧ J k W') ∨ (∃ k, Sp k ∧ Jx k W'))

/-- How a round's body may be left. -/
def postR (B : Nat) (Kp : World → World → Prop) (I : Nat → World → Prop) (Ix : Code → Nat → World → Prop) (k : Nat) (W : World) : Exit → Act → World → Prop
  | .normal, _, W' => KeepsFrom B W W' ∧ Kp W W' ∧ I k W'
  | .ret, _, W' => KeepsFrom B W W' ∧ Ix .ret k W'
  | .exit id, _, W' => KeepsFrom B W W' ∧ Ix (.exit id) k W'
  | .goto t, _, W' => KeepsFrom B W W' ∧ Ix (.goto t) k W'
  | .panic _, _, _ => False
  | .outgrown, _, _ => False

theorem wpIn_range_r {g : Operand} {ps : Array Tmp} {assign body : Code} {Q : Exit → Act → World → Prop} {a : Act} {w : World}
    (hro : F.round = none) (h1 : 1 ≤ n) {gf : Nat} {lb : Array Value} (hg : a.eval g = .func (.func gf) #[] lb) (hFg : F.fn gf) (eg : ∀ args w, (callFunc gf args).run P w = .ok (.enter gf args) w)
    {R : Nat → Array Value → World → Prop} {Kp Ab : World → World → Prop} {L T S Sp : Nat → Prop} (hseq : SeqR F (n - 1) P gf lb R Kp Ab L T S Sp w)
    (hKt : ∀ {A B C : World}, Kp A B → Kp B C → Kp A C) (hKb : ∀ (W : World) (l : Nat) (o o' : Obj), w.heap.size ≤ l → W.heap[l]? = some o → o.isCells = false → o.isWalk = false → Kp W (W.putObj l o'))
    (hAb : ∀ X X', Ab X X' → ∀ (k : Nat) (o : Obj), w.heap.size ≤ k → X.heap[k]? = some o → o.isCells = false → X'.heap[k]? = some o) (hps : ∀ k xs W, R k xs W → xs.size = ps.size) (hRp : ∀ k xs (W : World) (l : Nat) (o o' : Obj), w.heap.size ≤ l → W.heap[l]? = some o → o.isCells = false → o.isWalk = false → R k xs W → R k xs (W.putObj l o'))
    (I : Nat → World → Prop) (Ix : Code → Nat → World → Prop) (hI : OwnFrom w.heap.size I) (hIx : ∀ c, OwnFrom w.heap.size (Ix c)) (hIa : ∀ s X X', Ab X X' → I s X → I s X') (hIxa : ∀ c s X X', Ab X X' → Ix c s X → Ix c s X') (hL : ∀ s X, I s X → L s) (h0 : I 0 w) (a₁ : Nat → Array Value → Act)
    (hassign : ∀ (l : Nat) (x : Nat) (xs : Array Value) (W : World) (K : Act → World → Prop), R x xs W → K (a₁ x xs) W →
      assign.wpIn (F.inRound l) (n - 1 - 1) P (Exit.then K (fun _ _ _ => False)) { tmps := (ps.zip xs).foldl (fun t (p, v) => t.setIfInBounds p v) a.tmps, defers := [] } W)
    (hbody : ∀ (l : Nat) (k : Nat) (xs : Array Value) (W : World), w.heap.size ≤ l → (∃ r, W.heap[l]? = some (.loop r)) → T k → R k xs W → I k W → body.wpIn (F.inRound l) (n - 1 - 1) P (postR w.heap.size Kp I Ix (k + 1) W) (a₁ k xs) W)
    (hdone : ∀ (D : Nat) (k : Nat) (W : World), w.heap.size ≤ D → S k → I k W → W.heap[D]? = some (.deferred (some [])) → Q .normal { a with defers := { target := .collected D, args := #[] } :: a.defers } W)
    (hstop : ∀ (D : Nat) (c : Code) (k : Nat) (W : World), w.heap.size ≤ D → Sp k → Ix c k W → W.heap[D]? = some (.deferred (some [])) → c.wpIn F n P Q { a with defers := { target := .collected D, args := #[] } :: a.defers } W) :
    (Code.rangeFunc g ps assign body).wpIn F n P Q a w := by
  refine wpIn_rangeFunc ?_
  intro fn hfn
  rw [hro]
  obtain ⟨rc, hrc⟩ : ∃ rc : LoopState → Option Code → Loop, rc = fun st pe => { state := st, pending := pe, fn, tmps := a.tmps, params := ps, assign, body, defers := w.heap.size } := ⟨_, rfl⟩
  obtain ⟨V, hV⟩ : ∃ V, (w.alloc (.deferred (some []))).alloc (.loop (rc .ready none)) = V := ⟨_, rfl⟩
  have hLV : V.heap[w.heap.size + 1]? = some (.loop (rc .ready none)) := by
    have := World.alloc_heap_new (w.alloc (.deferred (some []))) (.loop (rc .ready none)); rw [World.size_alloc] at this; rw [← hV]; exact this
  have hKV : V.heap[w.heap.size]? = some (.deferred (some [])) := by rw [← hV]; exact (Below.heap_alloc _ _ _ (by simp)).trans (World.alloc_heap_new w _)
  have hIV : I 0 V := by rw [← hV]; exact hI.alloc _ (hI.alloc _ h0)
  have hBV : Below w.heap.size w V := by rw [← hV]; exact ((Below.refl _ w).alloc (Nat.le_refl _) _).alloc (by simp) _
  refine ⟨w.heap.size + 1, [{ target := .collected w.heap.size, args := #[] }], V, { target := .fn (.func gf) lb, args := #[.func (.yield (w.heap.size + 1)) #[] #[]] }, V, gf,
    #[.func (.yield (w.heap.size + 1)) #[] #[]] ++ lb, V, by rw [← hV, hrc]; exact run_enterLoop_outer _ _ _ _ _, by simp only [resolve, hg]; simp [go_sem], fun f' hf' => by simp [Target.leads] at hf'; subst hf'; exact hFg, by simp [invoke, go_sem, eg], fun _ => h1, ?_⟩
  refine (hseq (w.heap.size + 1)
    (fun pre W => I pre W ∧ W.heap[w.heap.size + 1]? = some (.loop (rc .ready none)) ∧ W.heap[w.heap.size]? = some (.deferred (some [])))
    (fun pre W => ∃ c, Ix c pre W ∧ W.heap[w.heap.size + 1]? = some (.loop (rc .done (some c))) ∧ W.heap[w.heap.size]? = some (.deferred (some [])))
    V hBV (fun s X X' hx hs => ⟨hIa s X X' hx hs.1, hAb X X' hx _ _ (by omega) hs.2.1 rfl, hAb X X' hx _ _ (Nat.le_refl _) hs.2.2 rfl⟩)
    (fun s X X' hx hs => by
      obtain ⟨c, hc, hl, hk⟩ := hs
      exact ⟨c, hIxa c s X X' hx hc, hAb X X' hx _ _ (by omega) hl rfl, hAb X X' hx _ _ (Nat.le_refl _) hk rfl⟩)
    (fun s X hs => hL s X hs.1) ?_ ⟨hIV, hLV, hKV⟩).mono ?_
  · rintro k xs W hT hRk ⟨hi, hl, hk⟩
    have hlt : w.heap.size + 1 < W.heap.size := (Array.getElem?_eq_some_iff.1 hl).1
    have hy := run_yield (P := P) (args := xs) hl (by rw [hrc]; exact hps k xs W hRk)
    rw [hrc] at hy
    refine ⟨fn, _, assign, body, hy, roundIn_of_wpIn hfn (hassign _ k xs W _ hRk ⟨_, run_beginRound hl (by rw [hrc]), ?_⟩)⟩
    obtain ⟨X, hX⟩ : ∃ X, W.putObj (w.heap.size + 1) (.loop { rc .ready none with state := .busy }) = X := ⟨_, rfl⟩
    have hl2 : X.heap[w.heap.size + 1]? = some (.loop { rc .ready none with state := .busy }) := by rw [← hX]; exact World.putObj_heap_same hlt
    have hk2 : X.heap[w.heap.size]? = some (.deferred (some [])) := by rw [← hX]; exact (World.putObj_heap_other (by omega)).trans hk
    have hw2 : Kp W X := by rw [← hX]; exact hKb _ _ _ _ (by omega) hl rfl rfl
    have hi2 : I k X := by rw [← hX]; exact hI.putObj _ hi (by omega) hl rfl
    have fin : ∀ (jump : Option Code) (Y : World), KeepsFrom w.heap.size X Y →
        (Instr.endRound (w.heap.size + 1) jump).run P Y = .ok (.bool jump.isNone) (Y.putObj (w.heap.size + 1) (.loop (rc (if jump.isNone then .ready else .done) jump))) ∧
        Y.heap[w.heap.size + 1]? = some (.loop { rc .ready none with state := .busy }) ∧
        (Y.putObj (w.heap.size + 1) (.loop (rc (if jump.isNone then .ready else .done) jump))).heap[w.heap.size + 1]? = some (.loop (rc (if jump.isNone then .ready else .done) jump)) ∧
        (Y.putObj (w.heap.size + 1) (.loop (rc (if jump.isNone then .ready else .done) jump))).heap[w.heap.size]? = some (.deferred (some [])) := fun jump Y hY => by
      have hl3 := hY.same _ _ (by omega) hl2 rfl
      have := run_endRound (P := P) jump hl3
      rw [hrc] at this ⊢
      exact ⟨this, by rw [hrc] at hl3; exact hl3, World.putObj_heap_same (Array.getElem?_eq_some_iff.1 hl3).1, (World.putObj_heap_other (by omega)).trans (hY.same _ _ (Nat.le_refl _) hk2 rfl)⟩
    have hR2 : R k xs X := by rw [← hX]; exact hRp k xs W _ _ _ (by omega) hl rfl rfl hRk
    have hb := hbody _ k xs X (by omega) ⟨_, hl2⟩ hT hR2 hi2
    rw [hX]
    refine wpIn_mono hb ?_
    rintro e a3 Y hp
    cases e with
    | normal =>
      obtain ⟨hY, hkp, hi3⟩ := hp
      obtain ⟨hr, hl3, hl4, hk4⟩ := fin none Y hY
      exact ⟨_, _, hr, .inl ⟨rfl, ⟨hI.putObj _ hi3 (by omega) hl3 rfl, hl4, hk4⟩, hKt (hKt hw2 hkp) (hKb _ _ _ _ (by omega) hl3 rfl rfl)⟩⟩
    | ret =>
      obtain ⟨hY, hix⟩ := hp
      obtain ⟨hr, hl3, hl4, hk4⟩ := fin (some .ret) Y hY
      exact ⟨_, _, hr, .inr ⟨rfl, .ret, (hIx _).putObj _ hix (by omega) hl3 rfl, hl4, hk4⟩⟩
    | exit id =>
      obtain ⟨hY, hix⟩ := hp
      obtain ⟨hr, hl3, hl4, hk4⟩ := fin (some (.exit id)) Y hY
      exact ⟨_, _, hr, .inr ⟨rfl, .exit id, (hIx _).putObj _ hix (by omega) hl3 rfl, hl4, hk4⟩⟩
    | goto t =>
      obtain ⟨hY, hix⟩ := hp
      obtain ⟨hr, hl3, hl4, hk4⟩ := fin (some (.goto t)) Y hY
      exact ⟨_, _, hr, .inr ⟨rfl, .goto t, (hIx _).putObj _ hix (by omega) hl3 rfl, hl4, hk4⟩⟩
    | panic ch => exact hp.elim
    | outgrown => exact hp.elim
  · rintro e Y ⟨⟨v, rfl⟩, (⟨xs, hS, hi, hl, hk⟩ | ⟨pre, hSp, c, hi, hl, hk⟩)⟩
    · exact ⟨none, _, by have := run_endLoop (P := P) hl (by rw [hrc]; simp); rw [hrc] at this; exact this, hdone _ xs _ (Nat.le_refl _) hS (hI.putObj _ hi (by omega) hl rfl) ((World.putObj_heap_other (by omega)).trans hk)⟩
    · exact ⟨some c, _, by have := run_endLoop (P := P) hl (by rw [hrc]; simp); rw [hrc] at this; exact this, hstop _ c pre _ (Nat.le_refl _) hSp ((hIx c).putObj _ hi (by omega) hl rfl) ((World.putObj_heap_other (by omega)).trans hk)⟩
end
end Go.Proofs.YtnnknnaimabehaaDoor
