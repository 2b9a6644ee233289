/- Blocks al rows of cells. -/
import Derived.Test.YtnnknnaimabehaaDoorModImg2
import Derived.Test.YtnnknnaimabehaaDoorRowV
import Derived.Test.YtnnknnaimabehaaDoorModVal
namespace Go.Proofs.YtnnknnaimabehaaDoor
open Go.RowKit
set_option linter.unusedVariables false
/-- The cells of blocks. -/
def BkC (W : World) (B : Nat) : List Value → List BlkP → Prop
  | cs, [] => cs = []
  | cs, b :: bs => ∃ Ap np cp Av nv cv cs', cs = [.int .i64 b.id, .slice Ap np cp, .slice Av nv cv] ++ cs' ∧ PtI W B Ap np cp b.pts ∧ VlI W B Av nv cv b.vals ∧ (∀ v ∈ b.vals, ValIn v) ∧ BkC W B cs' bs
theorem BkC.append {W : World} {B : Nat} {al : List BlkP} : ∀ {cs ds : List Value} {bs : List BlkP}, BkC W B cs al → BkC W B ds bs → BkC W B (cs ++ ds) (al ++ bs) := by
  induction al with
  | nil => intro cs ds bs h h2; subst h; exact h2
  | cons a al ih =>
    intro cs ds bs h h2
    obtain ⟨Ap, np, cp, Av, nv, cv, cs', rfl, h3, h4, h5, h6⟩ := h
    exact ⟨Ap, np, cp, Av, nv, cv, cs' ++ ds, by simp, h3, h4, h5, ih h6 h2⟩
theorem BkC.up {w w' : World} {al : List BlkP} (hb : Below w.heap.size w w') : ∀ {cs : List Value}, BkC w w.heap.size cs al → BkC w' w'.heap.size cs al := by
  induction al with
  | nil => intro cs h; exact h
  | cons a al ih =>
    intro cs h
    obtain ⟨Ap, np, cp, Av, nv, cv, cs', rfl, h3, h4, h5, h6⟩ := h
    exact ⟨Ap, np, cp, Av, nv, cv, cs', rfl, h3.up hb, h4.up hb, h5, ih h6⟩
theorem BkC.len {W : World} {B : Nat} {al : List BlkP} : ∀ {cs : List Value}, BkC W B cs al → cs.length = al.length * 3 := by
  induction al with
  | nil => intro cs h; subst h; rfl
  | cons a al ih =>
    intro cs h
    obtain ⟨Ap, np, cp, Av, nv, cv, cs', rfl, h3, h4, h5, h6⟩ := h
    have := ih h6
    simp [this]
    omega
theorem BkC.one {W : World} {B : Nat} {al : List BlkP} : ∀ {cs : List Value}, BkC W B cs al → ∀ u ∈ cs, u.oneCell' = true := by
  induction al with
  | nil => intro cs h u hu; subst h; cases hu
  | cons a al ih =>
    intro cs h u hu
    obtain ⟨Ap, np, cp, Av, nv, cv, cs', rfl, h3, h4, h5, h6⟩ := h
    simp only [List.cons_append, List.nil_append, List.mem_cons] at hu
    rcases hu with rfl | rfl | rfl | hu
    · rfl
    · rfl
    · rfl
    · exact ih h6 u hu
theorem BkC.at_ {W : World} {B : Nat} {al : List BlkP} : ∀ {cs : List Value}, BkC W B cs al → ∀ i b, al[i]? = some b → ∃ Ap np cp Av nv cv, cs[i * 3]? = some (.int .i64 b.id) ∧ cs[i * 3 + 1]? = some (.slice Ap np cp) ∧ cs[i * 3 + 2]? = some (.slice Av nv cv) ∧ PtI W B Ap np cp b.pts ∧ VlI W B Av nv cv b.vals ∧ ∀ v ∈ b.vals, ValIn v := by
  induction al with
  | nil => intro cs h i b hb; cases hb
  | cons a al ih =>
    intro cs h i b hb
    obtain ⟨Ap, np, cp, Av, nv, cv, cs', rfl, h3, h4, h5, h6⟩ := h
    cases i with
    | zero =>
      obtain rfl : a = b := by simpa using hb
      exact ⟨Ap, np, cp, Av, nv, cv, rfl, rfl, rfl, h3, h4, h5⟩
    | succ i =>
      obtain ⟨Ap', np', cp', Av', nv', cv', k1, k2, k3, k4⟩ := ih h6 i b (by simpa using hb)
      have e0 : (i + 1) * 3 = i * 3 + 1 + 1 + 1 := by omega
      have e1 : (i + 1) * 3 + 1 = i * 3 + 1 + 1 + 1 + 1 := by omega
      have e2 : (i + 1) * 3 + 2 = i * 3 + 2 + 1 + 1 + 1 := by omega
      rw [e1, e2, e0]
      refine ⟨Ap', np', cp', Av', nv', cv', ?_, ?_, ?_, k4⟩
      · simpa using k1
      · simpa using k2
      · simpa using k3
theorem bkc_of {W : World} {B g : Nat} (bs : List BlkP) : ∀ off, (∀ i b, bs[i]? = some b → ∃ Ap np cp Av nv cv, W.cell? ⟨g, off + i * 3, none⟩ = some (.int .i64 b.id) ∧ W.cell? ⟨g, off + i * 3 + 1, none⟩ = some (.slice Ap np cp) ∧ W.cell? ⟨g, off + i * 3 + 2, none⟩ = some (.slice Av nv cv) ∧ PtI W B Ap np cp b.pts ∧ VlI W B Av nv cv b.vals ∧ ∀ v ∈ b.vals, ValIn v) →
    ∃ cs, BkC W B cs bs ∧ ∀ j v, cs[j]? = some v → W.cell? ⟨g, off + j, none⟩ = some v := by
  induction bs with
  | nil => intro off h; exact ⟨[], rfl, fun j v h => by simp at h⟩
  | cons b bs ih =>
    intro off h
    obtain ⟨cs', h1, h2⟩ := ih (off + 3) (fun i c hc => by
      have := h (i + 1) c (by simpa using hc)
      rw [show off + (i + 1) * 3 = off + 3 + i * 3 by omega] at this
      exact this)
    obtain ⟨Ap, np, cp, Av, nv, cv, k1, k2, k3, k4, k5, k6⟩ := h 0 b rfl
    refine ⟨_, ⟨Ap, np, cp, Av, nv, cv, cs', rfl, k4, k5, k6, h1⟩, fun j v hj => ?_⟩
    match j, hj with
    | 0, hj => obtain rfl := Option.some.inj hj; simpa using k1
    | 1, hj => obtain rfl := Option.some.inj hj; simpa using k2
    | 2, hj => obtain rfl := Option.some.inj hj; simpa using k3
    | j + 3, hj =>
      have := h2 j v (by simpa using hj)
      rw [show off + (j + 3) = off + 3 + j by omega]
      exact this
theorem BkI.cells {W : World} {B : Nat} {A : Option Addr} {n c : Nat} {bs : List BlkP} (h : BkI W B A n c bs) : ∃ cs, SlV W B A n c 3 cs ∧ BkC W B cs bs := by
  obtain ⟨h1, h2, h3, h4, h5⟩ := h
  by_cases hn : 0 < n
  · obtain ⟨g, off, e, hg, hc⟩ := h5 hn
    obtain ⟨cs, k1, k2⟩ := bkc_of bs off hc
    exact ⟨cs, ⟨by rw [k1.len, h1], h2, h3, h4, fun _ => ⟨g, off, e, hg, k2⟩⟩, k1⟩
  · obtain rfl : n = 0 := by omega
    obtain rfl := List.length_eq_zero_iff.1 h1
    exact ⟨[], ⟨rfl, h2, h3, h4, fun h => absurd h (by simp)⟩, rfl⟩
theorem BkI.of_cells {W : World} {B : Nat} {A : Option Addr} {n c : Nat} {bs : List BlkP} {cs : List Value} (h : SlV W B A n c 3 cs) (hc : BkC W B cs bs) : BkI W B A n c bs := by
  have hl := hc.len
  have hl2 := h.1
  refine ⟨by omega, h.2.1, h.2.2.1, h.2.2.2.1, fun hn => ?_⟩
  obtain ⟨g, off, e, hg, hr⟩ := h.2.2.2.2 (by omega)
  refine ⟨g, off, e, hg, fun i b hb => ?_⟩
  obtain ⟨Ap, np, cp, Av, nv, cv, k1, k2, k3, k4⟩ := hc.at_ i b hb
  exact ⟨Ap, np, cp, Av, nv, cv, hr _ _ k1, hr _ _ k2, hr _ _ k3, k4⟩
/-- Two lists put together. -/
theorem BkI.of_own2 {w w' : World} {n n' base : Nat} {al bs : List BlkP} {ca cb : List Value} {e : TypeId} {v : Value} (ha : BkC w w.heap.size ca al) (hb : BkC w w.heap.size cb bs) (hB : Below w.heap.size w w') (h : w'.ownsRow base e 3 v (n + n') (ca ++ cb)) :
    ∃ A2 c2, v = .slice A2 (n + n') c2 ∧ BkI w' w'.heap.size A2 (n + n') c2 (al ++ bs) := by
  obtain ⟨A2, c2, e2, hs⟩ := SlV.of_own (by omega) h
  exact ⟨A2, c2, e2, BkI.of_cells hs ((ha.up hB).append (hb.up hB))⟩
end Go.Proofs.YtnnknnaimabehaaDoor
namespace Go.Proofs.YtnnknnaimabehaaDoor
open Go.RowKit
set_option linter.unusedVariables false
def valC (vs : List ValP) : List Value := vs.flatMap fun v => [.int .u64 v.u, .int .i64 v.i, .string v.s]
def ptC (ps : List PtP) : List Value := ps.flatMap fun p => [.int .i64 p.kind, .int .i64 p.words]
theorem valC_len (vs : List ValP) : (valC vs).length = vs.length * 3 := by
  induction vs with
  | nil => rfl
  | cons v r ih => simp only [valC, List.flatMap_cons, List.length_append, List.length_cons, List.length_nil] at ih ⊢; omega
theorem ptC_len (ps : List PtP) : (ptC ps).length = ps.length * 2 := by
  induction ps with
  | nil => rfl
  | cons v r ih => simp only [ptC, List.flatMap_cons, List.length_append, List.length_cons, List.length_nil] at ih ⊢; omega
theorem valC_one (vs : List ValP) : ∀ u ∈ valC vs, u.oneCell' = true := by
  intro u hu
  simp only [valC, List.mem_flatMap] at hu
  obtain ⟨v, _, hu⟩ := hu
  simp only [List.mem_cons, List.not_mem_nil, or_false] at hu
  rcases hu with rfl | rfl | rfl <;> rfl
theorem ptC_one (ps : List PtP) : ∀ u ∈ ptC ps, u.oneCell' = true := by
  intro u hu
  simp only [ptC, List.mem_flatMap] at hu
  obtain ⟨v, _, hu⟩ := hu
  simp only [List.mem_cons, List.not_mem_nil, or_false] at hu
  rcases hu with rfl | rfl <;> rfl
theorem valC_at (vs : List ValP) : ∀ i v, vs[i]? = some v → (valC vs)[i * 3]? = some (.int .u64 v.u) ∧ (valC vs)[i * 3 + 1]? = some (.int .i64 v.i) ∧ (valC vs)[i * 3 + 2]? = some (.string v.s) := by
  induction vs with
  | nil => intro i v h; cases h
  | cons a r ih =>
    intro i v h
    cases i with
    | zero =>
      obtain rfl : a = v := by simpa using h
      exact ⟨rfl, rfl, rfl⟩
    | succ i =>
      obtain ⟨h0, h1, h2⟩ := ih i v (by simpa using h)
      have e0 : (i + 1) * 3 = i * 3 + 1 + 1 + 1 := by omega
      have e1 : (i + 1) * 3 + 1 = i * 3 + 1 + 1 + 1 + 1 := by omega
      have e2 : (i + 1) * 3 + 2 = i * 3 + 2 + 1 + 1 + 1 := by omega
      rw [e1, e2, e0]
      have e : valC (a :: r) = [.int .u64 a.u, .int .i64 a.i, .string a.s] ++ valC r := by simp [valC]
      rw [e]
      exact ⟨by simpa using h0, by simpa using h1, by simpa using h2⟩
theorem ptC_at (ps : List PtP) : ∀ i p, ps[i]? = some p → (ptC ps)[i * 2]? = some (.int .i64 p.kind) ∧ (ptC ps)[i * 2 + 1]? = some (.int .i64 p.words) := by
  induction ps with
  | nil => intro i v h; cases h
  | cons a r ih =>
    intro i v h
    cases i with
    | zero =>
      obtain rfl : a = v := by simpa using h
      exact ⟨rfl, rfl⟩
    | succ i =>
      obtain ⟨h0, h1⟩ := ih i v (by simpa using h)
      have e0 : (i + 1) * 2 = i * 2 + 1 + 1 := by omega
      have e1 : (i + 1) * 2 + 1 = i * 2 + 1 + 1 + 1 := by omega
      rw [e1, e0]
      have e : ptC (a :: r) = [.int .i64 a.kind, .int .i64 a.words] ++ ptC r := by simp [ptC]
      rw [e]
      exact ⟨by simpa using h0, by simpa using h1⟩
theorem ptc_cell {W : World} {g : Nat} (ps : List PtP) : ∀ off, (∀ i p, ps[i]? = some p → W.cell? ⟨g, off + i * 2, none⟩ = some (.int .i64 p.kind) ∧ W.cell? ⟨g, off + i * 2 + 1, none⟩ = some (.int .i64 p.words)) → ∀ j v, (ptC ps)[j]? = some v → W.cell? ⟨g, off + j, none⟩ = some v := by
  induction ps with
  | nil => intro off h j v hj; simp [ptC] at hj
  | cons a r ih =>
    intro off h j v hj
    obtain ⟨h0, h1⟩ := h 0 a rfl
    have e : ptC (a :: r) = [.int .i64 a.kind, .int .i64 a.words] ++ ptC r := by simp [ptC]
    rw [e] at hj
    match j, hj with
    | 0, hj => obtain rfl := Option.some.inj hj; simpa using h0
    | 1, hj => obtain rfl := Option.some.inj hj; simpa using h1
    | j + 2, hj =>
      have := ih (off + 2) (fun i p hp => by
        have := h (i + 1) p (by simpa using hp)
        rw [show off + (i + 1) * 2 = off + 2 + i * 2 by omega] at this
        exact this) j v (by simpa using hj)
      rw [show off + (j + 2) = off + 2 + j by omega]
      exact this
theorem PtI.cells {W : World} {B : Nat} {A : Option Addr} {n c : Nat} {ps : List PtP} (h : PtI W B A n c ps) : SlV W B A n c 2 (ptC ps) := by
  obtain ⟨h1, h2, h3, h4, h5⟩ := h
  refine ⟨by rw [ptC_len, h1], h2, h3, h4, fun hn => ?_⟩
  rw [ptC_len] at hn
  obtain ⟨g, off, e, hg, hc⟩ := h5 (by omega)
  exact ⟨g, off, e, hg, ptc_cell ps off hc⟩
theorem PtI.of_cells {W : World} {B : Nat} {A : Option Addr} {n c : Nat} {ps : List PtP} (h : SlV W B A n c 2 (ptC ps)) : PtI W B A n c ps := by
  have hl := h.1
  rw [ptC_len] at hl
  refine ⟨by omega, h.2.1, h.2.2.1, h.2.2.2.1, fun hn => ?_⟩
  obtain ⟨g, off, e, hg, hr⟩ := h.2.2.2.2 (by rw [ptC_len]; omega)
  refine ⟨g, off, e, hg, fun i p hp => ?_⟩
  obtain ⟨k0, k1⟩ := ptC_at ps i p hp
  exact ⟨hr _ _ k0, hr _ _ k1⟩
theorem VlI.of_cells {W : World} {B : Nat} {A : Option Addr} {n c : Nat} {vs : List ValP} (h : SlV W B A n c 3 (valC vs)) : VlI W B A n c vs := by
  have hl := h.1
  rw [valC_len] at hl
  refine ⟨by omega, h.2.1, h.2.2.1, h.2.2.2.1, fun hn => ?_⟩
  obtain ⟨g, off, e, hg, hr⟩ := h.2.2.2.2 (by rw [valC_len]; omega)
  refine ⟨g, off, e, hg, fun i p hp => ?_⟩
  obtain ⟨k0, k1, k2⟩ := valC_at vs i p hp
  exact ⟨hr _ _ k0, hr _ _ k1, hr _ _ k2⟩
/-- Points' words together. -/
def sumT (ps : List PtP) : Nat := (ps.map fun p => p.words.toNat).sum
theorem sumT_eq (ps : List PtP) (h : ps.all ptB = true) : (sumT ps : Int) = sumP ps := by
  induction ps with
  | nil => rfl
  | cons p r ih =>
    simp only [List.all_cons, Bool.and_eq_true] at h
    have h1 := ptB_in h.1
    have h2 := ih h.2
    simp only [sumT, sumP, List.map_cons, List.sum_cons] at h2 ⊢
    omega
theorem sumT_next (ps : List PtP) (j : Nat) (p : PtP) (h : ps[j]? = some p) : sumT (ps.take (j + 1)) = sumT (ps.take j) + p.words.toNat := by
  obtain ⟨hj, rfl⟩ := List.getElem?_eq_some_iff.1 h
  rw [List.take_succ_eq_append_getElem hj]
  simp only [sumT, List.map_append, List.sum_append, List.map_cons, List.map_nil, List.sum_cons, List.sum_nil, Nat.add_zero]
theorem sumT_take (ps : List PtP) (j : Nat) : sumT (ps.take j) ≤ sumT ps := by
  conv => rhs; rw [← List.take_append_drop j ps]
  simp only [sumT, List.map_append, List.sum_append]
  omega
/-- The values that points' words say. -/
noncomputable def rdVs : List PtP → List Int → List ValP
  | [], _ => []
  | p :: ps, l => rdV p (l.take p.words.toNat) :: rdVs ps (l.drop p.words.toNat)
theorem rdVs_len (ps : List PtP) : ∀ l, (rdVs ps l).length = ps.length := by
  induction ps with
  | nil => intro l; rfl
  | cons p r ih => intro l; simp [rdVs, ih]
theorem rdVs_append (a b : List PtP) : ∀ l, rdVs (a ++ b) l = rdVs a l ++ rdVs b (l.drop (sumT a)) := by
  induction a with
  | nil => intro l; simp [rdVs, sumT]
  | cons p r ih =>
    intro l
    simp only [List.cons_append, rdVs, ih]
    congr 2
    simp [sumT]
theorem rdVs_next (ps : List PtP) (j : Nat) (p : PtP) (l : List Int) (h : ps[j]? = some p) : rdVs (ps.take (j + 1)) l = rdVs (ps.take j) l ++ [rdV p ((l.drop (sumT (ps.take j))).take p.words.toNat)] := by
  obtain ⟨hj, rfl⟩ := List.getElem?_eq_some_iff.1 h
  rw [List.take_succ_eq_append_getElem hj, rdVs_append]
  rfl
theorem valC_append (a b : List ValP) : valC (a ++ b) = valC a ++ valC b := by simp [valC]
theorem rdVs_in (ps : List PtP) : ∀ l, (∀ x ∈ l, 0 ≤ x ∧ x < 65536) → ∀ v ∈ rdVs ps l, ValIn v := by
  induction ps with
  | nil => intro l _ v hv; cases hv
  | cons p r ih =>
    intro l hl v hv
    simp only [rdVs, List.mem_cons] at hv
    rcases hv with rfl | hv
    · exact rdV_in _ _ (fun x hx => hl x (List.mem_of_mem_take hx))
    · exact ih _ (fun x hx => hl x (List.mem_of_mem_drop hx)) v hv
end Go.Proofs.YtnnknnaimabehaaDoor
namespace Go.Proofs.YtnnknnaimabehaaDoor
open Go.RowKit
set_option linter.unusedVariables false
set_option maxRecDepth 100000
theorem infoPt : (Tryd.prog.info? 42).map (fun i => (i.zero, i.size, i.bytes)) = some (some (.agg #[.int .i64 0, .int .i64 0]), 2, 16) := by kernel_rfl
/-- The slice's block has cells of this type. -/
def TyAt (W : World) (T : TypeId) (A : Option Addr) : Prop := ∀ a, A = some a → ∃ cs, W.heap[a.block]? = some (.cells cs T (0, 0))
theorem TyAt.of_own {W : World} {base size n c : Nat} {T : TypeId} {A : Option Addr} {xs : List Value} (h : W.ownsRow base T size (.slice A n c) n xs) : TyAt W T A := fun a e => by
  subst e
  rcases h.2 with ⟨h, _⟩ | ⟨g3, _, cur, h, _, h4, _⟩
  · cases h
  · injection h with h
    injection h with h
    rw [h]
    exact ⟨cur, h4⟩
theorem TyAt.same {W W' : World} {T : TypeId} {A : Option Addr} (h : TyAt W T A) (hk : ∀ a, A = some a → W'.heap[a.block]? = W.heap[a.block]?) : TyAt W' T A := fun a e => by
  obtain ⟨cs, hc⟩ := h a e
  exact ⟨cs, (hk a e).trans hc⟩
theorem pclone_any (A : Option Addr) (n c : Nat) (ps : List PtP) (w : World) (hP : PtI w w.heap.size A n c ps) (h0 : 0 < n) (hn : n ≤ 1000000) :
    Calls Tryd.prog 37 #[.slice A n c] w fun e w' => ∃ A' c', e = .returned (.slice A' n c') ∧ PtI w' w'.heap.size A' n c' ps ∧ (∀ a, A' = some a → w.heap.size ≤ a.block) ∧ TyAt w' 42 A' ∧ Below w.heap.size w w' := by
  obtain ⟨i0, hi, hz0, hz1, hz2⟩ := info_parts infoPt
  obtain ⟨g, off, rfl, hg, _⟩ := hP.2.2.2.2 h0
  have heq := fun (W : World) (a : Option Addr) (l k : Nat) => Lib.run_eql_slice_nil (P := Tryd.prog) W 32 42 a l k 0 0 Tryd.underlying32
  obtain ⟨w1, hw1⟩ : ∃ W, w.alloc (.cells #[] 42) = W := ⟨_, rfl⟩
  have hb1 : Below w.heap.size w w1 := by rw [← hw1]; exact (Below.refl _ w).alloc (Nat.le_refl _) _
  have hown : w1.ownsRow w.heap.size 42 2 (.slice (some ⟨w.heap.size, 0, none⟩) 0 0) 0 [] := by rw [← hw1]; exact World.ownsRow_lit w #[] 0 (Nat.le_refl _) (by unfold maxLen; omega) rfl
  have hz := hb1.size
  have hcs := (hP.up hb1).cells
  have HO := Lib.hid (ptC_one ps)
  have HA1 := Lib.hid (show 0 + n ≤ maxLen ∧ (0 + n) * 16 ≤ 140737488355328 by unfold maxLen; omega)
  clear hP
  go_in
  go_wp2_with ((with_reducible refine at_append ?_); refine wpList_append_slv w1 rfl (.tmp 5) (.tmp 6) 32 rfl w.heap.size 42 i0 (.agg #[.int .i64 0, .int .i64 0]) 2 16 Tryd.underlying32 hi hz0 hz1 hz2 rfl (by omega) _ 0 _ rfl hown w1.heap.size (some ⟨g, off, none⟩) n c (ptC ps) rfl hcs HO.out HA1.out.1 HA1.out.2 hz ?_; intro v2 w2 hO2 hg2 hv2; have hb2 := hb1.grown hg2 hz (fun B hB => (hown.lt B hB).1); clear hg2 hv2)
  go_ret
  rw [List.nil_append, Nat.zero_add] at hO2
  obtain ⟨A', c', rfl, hs⟩ := SlV.of_own (by omega) hO2
  exact ⟨A', c', rfl, PtI.of_cells hs, fun a e => by
    subst e
    rcases hO2.2 with ⟨h, _⟩ | ⟨g3, _, _, h, h3, _⟩
    · cases h
    · injection h with h
      injection h with h
      rw [h]
      exact h3, TyAt.of_own hO2, hb2⟩
end Go.Proofs.YtnnknnaimabehaaDoor
