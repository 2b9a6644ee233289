/- append of structs, with what all cells of the row's block are, the spare ones too. No program in sight. -/
import Derived.Test.YtcipleanckeoaaaDoorYTk
import Derived.Test.YtcipleanckeoaaaDoorYCommon
import Derived.Maps.AppendAt
import Derived.Maps.OwnIn
import Derived.RangeFuncNested
import Derived.RangeFuncBox
import Derived.RangeFuncCalls
namespace Go.Proofs.YtcipleanckeoaaaDoor
open Go.RowKit
set_option linter.unusedVariables false
def AllC (W : World) (v : Value) (Q : Value → Prop) : Prop := ∀ g cs t fr, v.ownBlock = some g → W.heap[g]? = some (.cells cs t fr) → ∀ u ∈ cs.toList, Q u
theorem AllC.same {W W' : World} {v : Value} {Q : Value → Prop} (h : AllC W v Q) (hs : ∀ g, v.ownBlock = some g → W'.heap[g]? = W.heap[g]?) : AllC W' v Q := fun g cs t fr hv hg => h g cs t fr hv ((hs g hv).symm.trans hg)
theorem AllC.none (W : World) (Q : Value → Prop) : AllC W (.slice none 0 0) Q := fun g cs t fr hv => by simp [Value.ownBlock] at hv
theorem AllC.ne {W : World} {v : Value} {Q : Value → Prop} (h : AllC W v Q) {p : Addr} {x : Value} (hx : W.cell? p = some x) (hn : ¬ Q x) : v.ownBlock ≠ some p.block := fun hv => by
 unfold World.cell? at hx
 split at hx
 ·rename_i cs t fr hg
  have hx : (if p.spot.isSome = true then Option.none else cs[p.off]?) = some x := hx
  by_cases hsp : p.spot.isSome = true
  ·rw [if_pos hsp] at hx; cases hx
  ·rw [if_neg hsp] at hx
   exact hn (h p.block cs t fr hv hg x (Array.mem_toList_iff.mpr (Array.mem_of_getElem? hx)))
 ·cases hx
theorem zero_mem {z : Array Value} {n : Nat} {u : Value} (h : u ∈ (Builtin.zeroCells z n).toList) : u ∈ z.toList := by
 unfold Builtin.zeroCells at h
 simp only [Array.toList_map, List.mem_map, Array.mem_toList_iff, Array.mem_range] at h
 obtain ⟨i, hi, rfl⟩ := h
 have hz : 0 < z.size := by
  rcases Nat.eq_zero_or_pos z.size with h0 | h0
  ·rw [h0] at hi; simp at hi
  ·exact h0
 have hl := Nat.mod_lt i hz
 rw [getElem!_pos z (i % z.size) hl]
 simp
theorem run_append_slq {P : Program} (w : World) (base : Nat) (t ty e : TypeId) (i : TypeInfo) (z : Value) (size bytes : Nat) (ht : P.underlying t = some (.slice e)) (hi : P.info? e = some i) (hz : i.zero = some z)
  (hsize : i.size = size) (hby : i.bytes = bytes) (hzs : z.cells.size = size) (hsz : 0 < size) (Q : Value → Prop) (hzq : ∀ u ∈ z.cells.toList, Q u)
  (v : Value) (n : Nat) (xs : List Value) (hown : w.ownsRow base e size v n xs) (hq : AllC w v Q)
  (B : Nat) (a : Addr) (m c : Nat) (ys : List Value) (hr : SlV w B (some a) m c size ys) (h1 : ∀ u ∈ ys, u.oneCell' = true) (hyq : ∀ u ∈ ys, Q u)
  (h63 : n + m ≤ maxLen) (hbytes : (n + m) * bytes ≤ 140737488355328) (hbase : base ≤ w.heap.size) :
  ∃ v' w', (Builtin.append_ #[t, t] ty #[v, .slice (some a) m c]).run P w = .ok v' w' ∧ w'.ownsRow base e size v' (n + m) (xs ++ ys) ∧ w.grownBy w' v.ownBlock ∧ (v'.ownBlock = v.ownBlock ∨ v'.ownBlock = some w.heap.size) ∧ AllC w' v' Q := by
 obtain ⟨hl, hmc, _, hnone, hrd⟩ := hr
 have hxq : ∀ u ∈ xs, Q u := fun u hu => by
  rcases hown.2 with ⟨rfl, rfl⟩ | ⟨g, cap, cur, rfl, _, hg, _, _, _, htake⟩
  ·have : xs = [] := List.eq_nil_of_length_eq_zero (by simpa using hown.1)
   rw [this] at hu; cases hu
  ·rw [← htake] at hu
   exact hq g cur e (0, 0) rfl hg u (List.mem_of_mem_take hu)
 obtain ⟨v', w', hrun, k1, k2, _, k4⟩ := run_append_own_at (P := P) w base t ty e i z size bytes ht hi hz hsize hby hzs hsz v n xs hown a m c ys hl (news_v hrd) h1 h63 hbytes hbase
 refine ⟨v', w', hrun, k1, k2, k4, ?_⟩
 subst hsize
 subst hby
 have hsmall : n + m ≤ 9223372036854775807 := by simp only [maxLen] at h63; omega
 have fin : ∀ (k : Nat) (V : World), V.heap.size = w.heap.size → ∀ cs : Array Value, (∀ u ∈ cs.toList, Q u) → AllC (V.alloc (.cells cs e)) (.slice (some ⟨w.heap.size, 0, none⟩) (n + m) k) Q := fun k V hV cs hcs g cs' t' fr hv hg => by
  simp only [Value.ownBlock, Option.some.injEq] at hv
  subst hv
  rw [← hV, heap_alloc_new V] at hg
  injection hg with hg
  injection hg with hg1 hg2 hg3
  subst hg1
  exact hcs
 rcases hown.2 with ⟨rfl, rfl⟩ | ⟨g, cap, cur, rfl, hbg, hg, hnc, hcm, hcs, htake⟩
 ·by_cases hm : m = 0
  ·subst hm
   have hn : ys = [] := List.eq_nil_of_length_eq_zero (by simpa using hl)
   subst hn
   have hr : (Builtin.append_ #[t, t] ty #[.slice none 0 0, .slice (some a) 0 c]).run P w = .ok (.slice none 0 0) w := by
    simp [Builtin.append_, run_underlying ht, sizeOf, typeInfo, hi, Builtin.lenOf, Builtin.firstCells, loadCells, loadCellsFrom]
   rw [hr] at hrun
   injection hrun with e1 e2
   subst e1 e2
   exact AllC.none _ _
  ·have hr := run_append_nil (P := P) w t ty e i z ht hi hz a m c ys hl (news_v hrd) (by omega) (by omega) (by have hb := hbytes; simp only [Nat.zero_add] at hb; omega)
   rw [hr] at hrun
   injection hrun with e1 e2
   subst e1 e2
   have := fin (grownCap w m 0 e) w.drew rfl (ys.toArray ++ Builtin.zeroCells z.cells (grownCap w m 0 e - m)) (fun u hu => by
    rw [Array.toList_append, List.mem_append] at hu
    rcases hu with h | h
    ·exact hyq u h
    ·exact hzq u (zero_mem h))
   rwa [Nat.zero_add] at this
 ·by_cases hroom : n + m ≤ cap
  ·have hfit : n * i.size + ys.length ≤ cur.size := by rw [hl, hcs, ← Nat.add_mul]; exact Nat.mul_le_mul_right _ hroom
   have hr := run_append_room (P := P) w t ty e i ht hi g n cap cur hg a m c ys hl (news_v hrd) h1 hroom hfit
   rw [hr] at hrun
   injection hrun with e1 e2
   subst e1 e2
   intro g' cs' t' fr hv hg'
   simp only [Value.ownBlock, Option.some.injEq] at hv
   subst hv
   rw [setRow_heap w g cur _ e _ hg] at hg'
   injection hg' with hg'
   injection hg' with hg1 hg2 hg3
   subst hg1
   intro u hu
   have hcur := hq g cur e (0, 0) rfl hg
   simp only [List.append_assoc, List.mem_append] at hu
   rcases hu with h | h | h
   ·exact hcur u (List.mem_of_mem_take h)
   ·exact hyq u h
   ·exact hcur u (List.mem_of_mem_drop h)
  ·have holds : ∀ j u, xs[j]? = some u → w.cell? ((⟨g, 0, none⟩ : Addr).add j) = some u := hown.cells (g := g) rfl
   have hr := run_append_grow (P := P) w t ty e i z ht hi hz ⟨g, 0, none⟩ n cap xs hown.1 holds a m c ys hl (news_v hrd) (by omega) (by omega) (growslice_fits (by omega) hbytes)
   rw [hr] at hrun
   injection hrun with e1 e2
   subst e1 e2
   exact fin _ w.drew rfl _ (fun u hu => by
    rw [Array.toList_append, Array.toList_append, List.mem_append, List.mem_append] at hu
    rcases hu with (h | h) | h
    ·exact hxq u h
    ·exact hyq u h
    ·exact hzq u (zero_mem h))
theorem wpList_append_slq {P : Program} (w : World) {ops : Array Oper} {rest : List Oper} {o : Oper} {a : Act} {Q : Exit → Act → World → Prop} (hgd : o.guard = none) (s x : Operand) (t : TypeId)
  (ho : o.op = .call { callee := .builtin .append, args := #[s, x], argTypes := #[t, t] })
  (base : Nat) (e : TypeId) (i : TypeInfo) (z : Value) (size bytes : Nat) (ht : P.underlying t = some (.slice e)) (hi : P.info? e = some i) (hz : i.zero = some z)
  (hsize : i.size = size) (hby : i.bytes = bytes) (hzs : z.cells.size = size) (hsz : 0 < size) (K : Value → Prop) (hzq : ∀ u ∈ z.cells.toList, K u)
  (v : Value) (n : Nat) (xs : List Value) (hs : a.eval s = v) (hown : w.ownsRow base e size v n xs) (hq : AllC w v K)
  (B : Nat) (ad : Addr) (m c : Nat) (ys : List Value) (hx : a.eval x = .slice (some ad) m c) (hr : SlV w B (some ad) m c size ys) (h1 : ∀ u ∈ ys, u.oneCell' = true) (hyq : ∀ u ∈ ys, K u)
  (h63 : n + m ≤ maxLen) (hbytes : (n + m) * bytes ≤ 140737488355328) (hbase : base ≤ w.heap.size)
  (h : ∀ v' w', w'.ownsRow base e size v' (n + m) (xs ++ ys) → w.grownBy w' v.ownBlock → (v'.ownBlock = v.ownBlock ∨ v'.ownBlock = some w.heap.size) → AllC w' v' K → wpList P ops Q rest (a.put o.dst v') w') : wpList P ops Q (o :: rest) a w := by
 refine wpList_plain hgd fun K' hK => ?_
 obtain ⟨v', w', hr2, h2, h3, h4, h5⟩ := run_append_slq (P := P) w base t o.type e i z size bytes ht hi hz hsize hby hzs hsz K hzq v n xs hown hq B ad m c ys hr h1 hyq h63 hbytes hbase
 unfold Oper.wp execOp
 simp only [ho, resolve, invoke, builtin, Sem.run_bind, Sem.run_pure, Result.andThen_ok, List.map_toArray, List.map_cons, List.map_nil, hs, hx, hr2]
 exact hK _ _ (h v' w' h2 h3 h4 h5)
theorem wpListIn_append_slq {F : Fence} {nF : Nat} {P : Program} (w : World) {ops : Array Oper} {rest : List Oper} {o : Oper} {a : Act} {Q : Exit → Act → World → Prop} (hgd : o.guard = none) (s x : Operand) (t : TypeId)
  (ho : o.op = .call { callee := .builtin .append, args := #[s, x], argTypes := #[t, t] })
  (base : Nat) (e : TypeId) (i : TypeInfo) (z : Value) (size bytes : Nat) (ht : P.underlying t = some (.slice e)) (hi : P.info? e = some i) (hz : i.zero = some z)
  (hsize : i.size = size) (hby : i.bytes = bytes) (hzs : z.cells.size = size) (hsz : 0 < size) (K : Value → Prop) (hzq : ∀ u ∈ z.cells.toList, K u)
  (v : Value) (n : Nat) (xs : List Value) (hs : a.eval s = v) (hown : w.ownsRow base e size v n xs) (hq : AllC w v K)
  (B : Nat) (ad : Addr) (m c : Nat) (ys : List Value) (hx : a.eval x = .slice (some ad) m c) (hr : SlV w B (some ad) m c size ys) (h1 : ∀ u ∈ ys, u.oneCell' = true) (hyq : ∀ u ∈ ys, K u)
  (h63 : n + m ≤ maxLen) (hbytes : (n + m) * bytes ≤ 140737488355328) (hbase : base ≤ w.heap.size)
  (h : ∀ v' w', w'.ownsRow base e size v' (n + m) (xs ++ ys) → w.grownBy w' v.ownBlock → (v'.ownBlock = v.ownBlock ∨ v'.ownBlock = some w.heap.size) → AllC w' v' K → wpListIn F nF P ops Q rest (a.put o.dst v') w') : wpListIn F nF P ops Q (o :: rest) a w := by
 refine wpListIn_plain hgd fun K' hK => ?_
 obtain ⟨v', w', hr2, h2, h3, h4, h5⟩ := run_append_slq (P := P) w base t o.type e i z size bytes ht hi hz hsize hby hzs hsz K hzq v n xs hown hq B ad m c ys hr h1 hyq h63 hbytes hbase
 unfold Oper.wpIn
 refine ⟨by simp [Oper.about, ho, resolve, Target.leads, Sem.run_pure], ?_⟩
 rw [Oper.semAt_plain F _ _ (by rw [ho]; intro c hc'; cases hc')]
 simp [execOp, ho, resolve, invoke, builtin, hs, hx, hr2, Result.andThen]
 exact hK _ _ (h v' w' h2 h3 h4 h5)
section
variable {F : Fence} {n : Nat} {P : Program}
theorem wpIn_range_v {g : Operand} {ps : Array Tmp} {assign body : Code} {Q : Exit → Act → World → Prop} {a : Act} {w : World}
  (hro : F.round = none) (h1 : 1 ≤ n) {gf : Nat} {lb : Array Value} (hg : a.eval g = .func (.func gf) #[] lb) (hFg : F.fn gf) (eg : ∀ args w, (callFunc gf args).run P w = .ok (.enter gf args) w)
  {encs : Nat → Array Value} {Kp Ab : World → World → Prop} {L T S Sp : Nat → Prop} (hseq : SeqW F (n - 1) P gf lb encs Kp Ab L T S Sp w)
  (hKt : ∀ {A B C : World}, Kp A B → Kp B C → Kp A C) (hKb : ∀ (W : World) (l : Nat) (o o' : Obj), w.heap.size ≤ l → W.heap[l]? = some o → o.isCells = false → o.isWalk = false → Kp W (W.putObj l o'))
  (hAb : ∀ X X', Ab X X' → ∀ (k : Nat) (o : Obj), w.heap.size ≤ k → X.heap[k]? = some o → o.isCells = false → X'.heap[k]? = some o) (hps : ∀ x, (encs x).size = ps.size)
  (I : Nat → World → Prop) (Ix : Code → Nat → World → Prop) (hI : OwnFrom w.heap.size I) (hIx : ∀ c, OwnFrom w.heap.size (Ix c)) (hIa : ∀ s X X', Ab X X' → I s X → I s X') (hIxa : ∀ c s X X', Ab X X' → Ix c s X → Ix c s X') (hL : ∀ s X, I s X → L s) (h0 : I 0 w) (A : Nat → Act → World → Prop) (hAo : ∀ k a', OwnFrom w.heap.size (fun (_ : Unit) W => A k a' W))
  (hassign : ∀ (l : Nat) (x : Nat) (W : World) (K : Act → World → Prop), w.heap.size ≤ l → T x → I x W → (∀ a' W', KeepsFrom w.heap.size W W' → Kp W W' → I x W' → A x a' W' → K a' W') →
   assign.wpIn (F.inRound l) (n - 1 - 1) P (Exit.then K (fun _ _ _ => False)) { tmps := (ps.zip (encs x)).foldl (fun t (p, v) => t.setIfInBounds p v) a.tmps, defers := [] } W)
  (hbody : ∀ (l : Nat) (k : Nat) (a' : Act) (W : World), w.heap.size ≤ l → (∃ r, W.heap[l]? = some (.loop r)) → T k → I k W → A k a' W → body.wpIn (F.inRound l) (n - 1 - 1) P (postW w.heap.size Kp I Ix (k + 1) W) a' W)
  (hdone : ∀ (D : Nat) (k : Nat) (W : World), w.heap.size ≤ D → S k → I k W → W.heap[D]? = some (.deferred (some [])) → Q .normal { a with defers := { target := .collected D, args := #[] } :: a.defers } W)
  (hstop : ∀ (D : Nat) (c : Code) (k : Nat) (W : World), w.heap.size ≤ D → Sp k → Ix c k W → W.heap[D]? = some (.deferred (some [])) → c.wpIn F n P Q { a with defers := { target := .collected D, args := #[] } :: a.defers } W) :
  (Code.rangeFunc g ps assign body).wpIn F n P Q a w := by
 refine wpIn_rangeFunc ?_
 intro fn hfn
 rw [hro]
 obtain ⟨rc, hrc⟩ : ∃ rc : LoopState → Option Code → Loop, rc = fun st pe => { state := st, pending := pe, fn, tmps := a.tmps, params := ps, assign, body, defers := w.heap.size } := ⟨_, rfl⟩
 obtain ⟨V, hV⟩ : ∃ V, (w.alloc (.deferred (some []))).alloc (.loop (rc .ready none)) = V := ⟨_, rfl⟩
 have hLV : V.heap[w.heap.size + 1]? = some (.loop (rc .ready none)) := by
  have := World.alloc_heap_new (w.alloc (.deferred (some []))) (.loop (rc .ready none)); rw [World.size_alloc] at this; rw [← hV]; exact this
 have hKV : V.heap[w.heap.size]? = some (.deferred (some [])) := by rw [← hV]; exact (Below.heap_alloc _ _ _ (by simp)).trans (World.alloc_heap_new w _)
 have hIV : I 0 V := by rw [← hV]; exact hI.alloc _ (hI.alloc _ h0)
 have hBV := zB2 hV
 refine ⟨w.heap.size + 1, [{ target := .collected w.heap.size, args := #[] }], V, { target := .fn (.func gf) lb, args := #[.func (.yield (w.heap.size + 1)) #[] #[]] }, V, gf,
  #[.func (.yield (w.heap.size + 1)) #[] #[]] ++ lb, V, by rw [← hV, hrc]; exact run_enterLoop_outer _ _ _ _ _, by simp only [resolve, hg]; simp [go_sem], fun f' hf' => by simp [Target.leads] at hf'; subst hf'; exact hFg, by simp [invoke, go_sem, eg], fun _ => h1, ?_⟩
 refine (hseq (w.heap.size + 1)
  (fun pre W => I pre W ∧ W.heap[w.heap.size + 1]? = some (.loop (rc .ready none)) ∧ W.heap[w.heap.size]? = some (.deferred (some [])))
  (fun pre W => ∃ c, Ix c pre W ∧ W.heap[w.heap.size + 1]? = some (.loop (rc .done (some c))) ∧ W.heap[w.heap.size]? = some (.deferred (some [])))
  V hBV (fun s X X' hx hs => ⟨hIa s X X' hx hs.1, hAb X X' hx _ _ (by omega) hs.2.1 rfl, hAb X X' hx _ _ (Nat.le_refl _) hs.2.2 rfl⟩)
  (fun s X X' hx hs => by
   obtain ⟨c, hc, hl, hk⟩ := hs
   exact ⟨c, hIxa c s X X' hx hc, hAb X X' hx _ _ (by omega) hl rfl, hAb X X' hx _ _ (Nat.le_refl _) hk rfl⟩)
  (fun s X hs => hL s X hs.1) ?_ ⟨hIV, hLV, hKV⟩).mono ?_
 ·rintro k W hT ⟨hi, hl, hk⟩
  have hlt : w.heap.size + 1 < W.heap.size := (Array.getElem?_eq_some_iff.1 hl).1
  have hy := run_yield (P := P) (args := encs k) hl (by rw [hrc]; exact hps k)
  rw [hrc] at hy
  refine ⟨fn, _, assign, body, hy, roundIn_of_wpIn hfn (hassign _ k W _ (by omega) hT hi fun a2 W1 hkf hkp1 hi1 ha1 => ?_)⟩
  have hl1 : W1.heap[w.heap.size + 1]? = some (.loop (rc .ready none)) := hkf.same _ _ (by omega) hl rfl
  have hk1 : W1.heap[w.heap.size]? = some (.deferred (some [])) := hkf.same _ _ (Nat.le_refl _) hk rfl
  have hlt1 : w.heap.size + 1 < W1.heap.size := (Array.getElem?_eq_some_iff.1 hl1).1
  refine ⟨_, run_beginRound hl1 (by rw [hrc]), ?_⟩
  obtain ⟨X, hX⟩ : ∃ X, W1.putObj (w.heap.size + 1) (.loop { rc .ready none with state := .busy }) = X := ⟨_, rfl⟩
  have hl2 : X.heap[w.heap.size + 1]? = some (.loop { rc .ready none with state := .busy }) := by rw [← hX]; exact World.putObj_heap_same hlt1
  have hk2 : X.heap[w.heap.size]? = some (.deferred (some [])) := by rw [← hX]; exact (World.putObj_heap_other (by omega)).trans hk1
  have hw2 : Kp W X := by rw [← hX]; exact hKt hkp1 (hKb _ _ _ _ (by omega) hl1 rfl rfl)
  have hi2 : I k X := by rw [← hX]; exact hI.putObj _ hi1 (by omega) hl1 rfl
  have ha2 : A k a2 X := by rw [← hX]; exact (hAo k a2).putObj (s := ()) _ ha1 (by omega) hl1 rfl
  have fin : ∀ (jump : Option Code) (Y : World), KeepsFrom w.heap.size X Y →
    (Instr.endRound (w.heap.size + 1) jump).run P Y = .ok (.bool jump.isNone) (Y.putObj (w.heap.size + 1) (.loop (rc (if jump.isNone then .ready else .done) jump))) ∧
    Y.heap[w.heap.size + 1]? = some (.loop { rc .ready none with state := .busy }) ∧
    (Y.putObj (w.heap.size + 1) (.loop (rc (if jump.isNone then .ready else .done) jump))).heap[w.heap.size + 1]? = some (.loop (rc (if jump.isNone then .ready else .done) jump)) ∧
    (Y.putObj (w.heap.size + 1) (.loop (rc (if jump.isNone then .ready else .done) jump))).heap[w.heap.size]? = some (.deferred (some [])) := fun jump Y hY => by
   have hl3 := hY.same _ _ (by omega) hl2 rfl
   have := run_endRound (P := P) jump hl3
   rw [hrc] at this ⊢
   exact ⟨this, by rw [hrc] at hl3; exact hl3, World.putObj_heap_same (Array.getElem?_eq_some_iff.1 hl3).1, (World.putObj_heap_other (by omega)).trans (hY.same _ _ (Nat.le_refl _) hk2 rfl)⟩
  have hb := hbody _ k a2 X (by omega) ⟨_, hl2⟩ hT hi2 ha2
  rw [hX]
  refine wpIn_mono hb ?_
  rintro e a3 Y hp
  cases e with
  | normal =>
   obtain ⟨hY, hkp, hi3⟩ := hp
   obtain ⟨hr, hl3, hl4, hk4⟩ := fin none Y hY
   exact ⟨_, _, hr, .inl ⟨rfl, ⟨hI.putObj _ hi3 (by omega) hl3 rfl, hl4, hk4⟩, hKt (hKt hw2 hkp) (hKb _ _ _ _ (by omega) hl3 rfl rfl)⟩⟩
  | ret =>
   obtain ⟨hY, hix⟩ := hp
   obtain ⟨hr, hl3, hl4, hk4⟩ := fin (some .ret) Y hY
   exact ⟨_, _, hr, .inr ⟨rfl, .ret, (hIx _).putObj _ hix (by omega) hl3 rfl, hl4, hk4⟩⟩
  | exit id =>
   obtain ⟨hY, hix⟩ := hp
   obtain ⟨hr, hl3, hl4, hk4⟩ := fin (some (.exit id)) Y hY
   exact ⟨_, _, hr, .inr ⟨rfl, .exit id, (hIx _).putObj _ hix (by omega) hl3 rfl, hl4, hk4⟩⟩
  | goto t =>
   obtain ⟨hY, hix⟩ := hp
   obtain ⟨hr, hl3, hl4, hk4⟩ := fin (some (.goto t)) Y hY
   exact ⟨_, _, hr, .inr ⟨rfl, .goto t, (hIx _).putObj _ hix (by omega) hl3 rfl, hl4, hk4⟩⟩
  | panic ch => exact hp.elim
  | outgrown => exact hp.elim
 ·rintro e Y ⟨⟨v, rfl⟩, (⟨xs, hS, hi, hl, hk⟩ | ⟨pre, hSp, c, hi, hl, hk⟩)⟩
  ·exact ⟨none, _, by have := run_endLoop (P := P) hl (by rw [hrc]; simp); rw [hrc] at this; exact this, hdone _ xs _ (Nat.le_refl _) hS (hI.putObj _ hi (by omega) hl rfl) ((World.putObj_heap_other (by omega)).trans hk)⟩
  ·exact ⟨some c, _, by have := run_endLoop (P := P) hl (by rw [hrc]; simp); rw [hrc] at this; exact this, hstop _ c pre _ (Nat.le_refl _) hSp ((hIx c).putObj _ hi (by omega) hl rfl) ((World.putObj_heap_other (by omega)).trans hk)⟩
end
end Go.Proofs.YtcipleanckeoaaaDoor
