/- model.words: a block's words. -/
import Derived.Test.YtnnknnaimabehaaDoorModAll
import Derived.Test.YtnnknnaimabehaaDoorScope
import Derived.Deep.QuietTactic
namespace Go.Proofs.YtnnknnaimabehaaDoor
open Go.RowKit Go.Shelf
attribute [local go_sem] Oper.semAt_some
set_option linter.unusedVariables false
set_option maxRecDepth 100000

theorem mown_same {w w' : World} {base : Nat} {e : TypeId} {size n : Nat} {v : Value} {xs : List Value} (h : w.ownsRow base e size v n xs) (hb : ∀ b, v.ownBlock = some b → w'.heap[b]? = w.heap[b]?) : w'.ownsRow base e size v n xs := by
  refine ⟨h.1, ?_⟩
  rcases h.2 with h2 | ⟨g, cap, cur, hv, hg, hh, r⟩
  · exact .inl h2
  · exact .inr ⟨g, cap, cur, hv, hg, (hb g (by rw [hv]; rfl)).trans hh, r⟩
theorem mown_up {w w' : World} {base : Nat} {e : TypeId} {size n : Nat} {v : Value} {xs : List Value} (h : w.ownsRow base e size v n xs) (hb : Below w.heap.size w w') : w'.ownsRow base e size v n xs :=
  mown_same h fun b e => hb.block b (h.lt b e).2
theorem boxed_up {w w' : World} {B : Nat} {t : TypeId} {v : Value} (h : Boxed w B t v) (hb : Below w.heap.size w w') : Boxed w' B t v := by
  have h1 := h.lt
  exact (hb.block B h1).trans h
theorem mbigW_len (v m : Int) (hf : fitsB v m = true) : ((bigW v m).length : Int) = m := by
  simp [fitsB] at hf
  unfold bigW
  split
  · rename_i h; simp [h]
  · split
    · rename_i h; simp [h]
    · simp; omega
theorem mwordsX_len (v m : Int) (h : wordsB v m 1 = true) : ((wordsX v m 1).length : Int) = m := by
  unfold wordsX
  rw [if_pos h, turnL_len]
  unfold wordsB at h
  rw [Bool.and_eq_true] at h
  exact mbigW_len v m h.1
theorem pt_len (p : PtP) (v : ValP) (l : List Int) (h : ptWords p v = some l) : (l.length : Int) = p.words := by
  unfold ptWords at h
  split at h
  · unfold textP at h
    split at h
    · rename_i h2
      injection h with h
      rw [← h, txtL_len]
      have := h2.2.1
      omega
    · cases h
  · split at h
    · unfold signedP someW at h
      split at h
      · rename_i h2
        injection h with h
        rw [Bool.and_eq_true] at h2
        rw [← h]
        exact mwordsX_len _ _ (uns_words _ _ h2.1)
      · cases h
    · unfold plainP someW at h
      split at h
      · rename_i h2
        injection h with h
        rw [Bool.and_eq_true] at h2
        rw [← h]
        exact mwordsX_len _ _ h2.2
      · cases h
/-- The words of the first k points; none: one does not go into them. -/
noncomputable def seqW (ps : List PtP) (vs : List ValP) : Nat → Option (List Int)
  | 0 => some []
  | k + 1 => match seqW ps vs k, ps[k]?, vs[k]? with
    | some L, some p, some v => (ptWords p v).map (L ++ ·)
    | _, _, _ => none
noncomputable def blkW (id : Int) (ps : List PtP) (vs : List ValP) : Option (List Int) := if defB id ps = true ∧ vs.length = ps.length then seqW ps vs ps.length else none
theorem seqW_next (ps : List PtP) (vs : List ValP) (k : Nat) (L : List Int) (p : PtP) (v : ValP) (h : seqW ps vs k = some L) (hp : ps[k]? = some p) (hv : vs[k]? = some v) : seqW ps vs (k + 1) = (ptWords p v).map (L ++ ·) := by
  simp [seqW, h, hp, hv]
theorem seqW_stop (ps : List PtP) (vs : List ValP) (k : Nat) (h : seqW ps vs k = none) : ∀ j, seqW ps vs (k + j) = none := by
  intro j
  induction j with
  | zero => exact h
  | succ j ih =>
    show seqW ps vs (k + j + 1) = none
    simp [seqW, ih]
theorem seqW_len (ps : List PtP) (vs : List ValP) (hps : ps.all ptB = true) (k : Nat) (L : List Int) (h : seqW ps vs k = some L) (hk : k ≤ ps.length) : (L.length : Int) = sumP (ps.take k) ∧ L.length ≤ 125 * k := by
  induction k generalizing L with
  | zero =>
    simp [seqW] at h
    subst h
    simp [sumP]
  | succ k ih =>
    obtain ⟨p, hp⟩ : ∃ p, ps[k]? = some p := ⟨_, List.getElem?_eq_getElem (by omega)⟩
    cases hL : seqW ps vs k with
    | none => simp [seqW, hL] at h
    | some M =>
      cases hv : vs[k]? with
      | none => simp [seqW, hL, hp, hv] at h
      | some v =>
        rw [seqW_next ps vs k M p v hL hp hv] at h
        cases hw : ptWords p v with
        | none => rw [hw] at h; cases h
        | some l =>
          rw [hw] at h
          simp at h
          obtain ⟨h1, h2⟩ := ih M hL (by omega)
          have h3 := pt_len p v l hw
          have h4 : ptB p = true := by
            have := List.all_eq_true.1 hps p (List.mem_of_getElem? hp)
            exact this
          have h5 := ptB_in h4
          rw [sum_snoc ps k p hp, ← h, List.length_append]
          omega
/-- What model.words answers. -/
def WPost (w : World) (o : Option (List Int)) (e : Ending) (w' : World) : Prop := ∃ A n c, e = .returned (.tuple #[.slice A n c, .bool o.isSome]) ∧ (∀ l, o = some l → SlI w' w'.heap.size .u16 A n c l ∧ ∀ a, A = some a → w.heap.size ≤ a.block) ∧ Below w.heap.size w w'
theorem infoW16 : (Tryd.prog.info? 77).map (fun i => (i.zero, i.size, i.bytes)) = some (some (.int .u16 0), 1, 2) := by kernel_rfl
theorem all_seq (Bs : Nat) (Kp : World → World → Prop) (A : Option Addr) (n c : Nat) (B : Option Addr) (d : Nat) (ps : List PtP) (vs : List ValP) (hvs : ∀ v ∈ vs, ValIn v) (w : World) (hKr : ∀ X, Kp X X) (hKt : ∀ X Y Z, Kp X Y → Kp Y Z → Kp X Z) (hKb : ∀ X X', w.heap.size ≤ X.heap.size → Below w.heap.size X X' → Kp X X') (hKs : ∀ X X', Kp X X' → X.heap.size ≤ X'.heap.size)
    (hBs : ∀ X, Kp w X → X.cell? ⟨Bs, 1, none⟩ = some (.slice A n c) ∧ X.cell? ⟨Bs, 2, none⟩ = some (.slice B n d)) (hP : ∀ X, Kp w X → PtI X X.heap.size A n c ps) (hV : ∀ X, Kp w X → VlI X X.heap.size B n d vs) :
    SeqR Fence.wide 5 Tryd.prog 43 #[.pointer (some ⟨Bs, 0, none⟩)] (TellR ps vs) Kp (fun X X' => Below X.heap.size X X') (fun _ => True) (fun k => k < n) (fun k => k = n) (fun k => k ≤ n) w := by
  intro l J Jx W hW hJa _ _ hY h0
  have hW' : Kp w W := hKb w W (Nat.le_refl _) hW
  exact all1_in l Bs Kp A n c B d ps vs hvs J Jx hJa (fun k xs X h1 h2 h3 => hY k xs X h1 h2 h3) W hKr hKt (fun X X' h1 h2 => hKb X X' (Nat.le_trans hW.size h1) (h2.mono (Nat.le_trans hW.size h1))) hKs (fun X h => hBs X (hKt _ _ _ hW' h)) (fun X h => hP X (hKt _ _ _ hW' h)) (fun X h => hV X (hKt _ _ _ hW' h)) h0
theorem tell_put (ps : List PtP) (vs : List ValP) (k : Nat) (xs : Array Value) (W : World) (l : Nat) (o o' : Obj) (h1 : W.heap[l]? = some o) (h2 : o.isCells = false) (h : TellR ps vs k xs W) : TellR ps vs k xs (W.putObj l o') := by
  obtain ⟨A, n, c, p, v, hp, hv, hx, hl⟩ := h
  refine ⟨A, n, c, p, v, hp, hv, hx, fun L hL => ?_⟩
  obtain ⟨a1, a2, a3, a4, a5⟩ := hl L hL
  refine ⟨a1, a2, a3, a4, fun hn => ?_⟩
  obtain ⟨g, off, e, hg, hc⟩ := a5 hn
  have hne : g ≠ l := by
    rintro rfl
    have := hc 0 _ (List.getElem?_eq_getElem hn)
    rw [World.cell?, h1] at this
    cases o <;> simp [Obj.isCells] at h2 this
  refine ⟨g, off, e, by simpa [World.putObj] using hg, fun i x hx => ?_⟩
  rw [World.cell?_of_block (World.putObj_heap_other hne)]
  exact hc i x hx
end Go.Proofs.YtnnknnaimabehaaDoor
