/- The readings of blocks, opened; what a bound on what they hold gives. -/
import Derived.Test.YtnnknnaimabehaaDoorModGreat
import Derived.Deep.Strs
import Derived.Deep.SlicePairs
import Derived.OpenShut
import Derived.ProofKit
namespace Go.Proofs.YtnnknnaimabehaaDoor
open Go.ChangeShapes Go.WideShapes Go.ChangeAt Go.RowKit
set_option linter.unusedVariables false
set_option maxRecDepth 100000
theorem bulk_one {H : Type} (d : DataW H) : 1 ≤ Rows.uptoBulk d := by
  cases d with
  | lit l => cases l <;> simp [Rows.uptoBulk]
  | nil => simp [Rows.uptoBulk]
  | ptr d => simp [Rows.uptoBulk]
  | slice elems spare => simp [Rows.uptoBulk]
  | agg parts => simp [Rows.uptoBulk]
  | iface t d => simp [Rows.uptoBulk]
  | map entries => simp [Rows.uptoBulk]
  | held h => simp [Rows.uptoBulk]
theorem bulk_sum {H : Type} (l : List Nat) (f : Nat → Nat) (D : Nat → DataW H) (h : ∀ i ∈ l, f i ≤ Rows.uptoBulk (D i)) : (l.map f).sum ≤ Rows.uptoBulkAll (l.map D) := by
  induction l with
  | nil => simp
  | cons x r ih =>
    have h1 := ih (fun i hi => h i (List.mem_cons_of_mem _ hi))
    have h2 := h x (List.mem_cons_self ..)
    simp only [List.map_cons, List.sum_cons, Rows.uptoBulkAll]
    omega
theorem bulk_slice {H : Type} (n : Nat) (f : Nat → Nat) (D : Nat → DataW H) (r : List (DataW H)) (h : ∀ i < n, f i ≤ Rows.uptoBulk (D i)) : (((List.range n).map f).sum) + 1 ≤ Rows.uptoBulk (.slice ((List.range n).map D) r) := by
  have h1 := bulk_sum (List.range n) f D (fun i hi => h i (List.mem_range.1 hi))
  simp only [Rows.uptoBulk]
  omega
theorem bulk_struct2 {H : Type} (a b : DataW H) : Rows.uptoBulk (.agg [a, b]) = Rows.uptoBulk a + Rows.uptoBulk b + 1 := by simp [Rows.uptoBulk, Rows.uptoBulkAll]
theorem bulk_struct3 {H : Type} (a b c : DataW H) : Rows.uptoBulk (.agg [a, b, c]) = Rows.uptoBulk a + (Rows.uptoBulk b + Rows.uptoBulk c) + 1 := by simp [Rows.uptoBulk, Rows.uptoBulkAll]
theorem sum_ones (l : List Nat) (f : Nat → Nat) : l.length + (l.map f).sum = (l.map fun i => 1 + f i).sum := by
  induction l with
  | nil => rfl
  | cons a l ih => simp only [List.length_cons, List.map_cons, List.sum_cons]; omega
theorem map_range_get {α : Type} (n : Nat) (f : Nat → α) (i : Nat) (x : α) (h : ((List.range n).map f)[i]? = some x) : i < n ∧ x = f i := by
  rw [List.getElem?_map] at h
  by_cases hi : i < n
  · rw [List.getElem?_range hi] at h
    exact ⟨hi, by simpa using h.symm⟩
  · rw [List.getElem?_eq_none (by simpa using Nat.le_of_not_lt hi)] at h
    cases h
theorem add_at {W : World} {a : Addr} {v : Value} (h : W.cell? (a.add 0) = some v) : a.spot = none ∧ a.block < W.heap.size := by
  have h1 := World.cell?_spot h
  have h2 := World.block_lt_of_cell? W _ h
  simp [Addr.add] at h1 h2
  exact ⟨h1, h2⟩
/-- The numbers of points fit. -/
def PtsIn (ps : List PtP) : Prop := ∀ p ∈ ps, (-9223372036854775808 ≤ p.kind ∧ p.kind ≤ 9223372036854775807) ∧ (-9223372036854775808 ≤ p.words ∧ p.words ≤ 9223372036854775807)
theorem open_points {H : Type} {enc : TypeId × Value → H} {W : World} {m : Nat} {cs : List Value} {x : DataW H × List MemPlace} (h : DataW.trod enc Tryd.prog W 0 (fun _ => true) true m 32 cs = some x) :
    ∃ (A : Option Addr) (n c : Nat) (ps : List PtP), cs = [.slice A n c] ∧ PtI W W.heap.size A n c ps ∧ PtsIn ps ∧ n ≤ Rows.uptoBulk x.1 := by
  rcases Go.Deep.open_slice_pairs Tryd.underlying32 (by first | exact Tryd.underlying42 | kernel_rfl) (by kernel_rfl) rfl rfl (by kernel_rfl) (by kernel_rfl) h with ⟨hcs, _⟩ | ⟨ad, len, cap, m', n', V0, V1, D0, D1, P0, P1, hcs, _, hl, hm, hmm, rfl, hi⟩
  · subst hcs
    exact ⟨none, 0, 0, [], rfl, ⟨rfl, by omega, by simp [maxLen], fun _ => ⟨rfl, rfl⟩, fun h => absurd h (by omega)⟩, (fun p hp => by cases hp), Nat.zero_le _⟩
  · subst hcs
    have hmn : len ≤ m' := by rw [hmm]; simpa using hl
    have each : ∀ i, i < len → ∃ q : PtP, V0 i = .int .i64 q.kind ∧ V1 i = .int .i64 q.words ∧ (Lit.int .i64 q.kind).wf = true ∧ (Lit.int .i64 q.words).wf = true := by
      intro i hin
      obtain ⟨_, _, h0, h1⟩ := hi i (by omega)
      obtain ⟨k, hk, _, hkw⟩ := DataW.trod_int Tryd.underlying3 h0
      obtain ⟨k2, hk2, _, hkw2⟩ := DataW.trod_int Tryd.underlying3 h1
      exact ⟨⟨k, k2⟩, by simpa using hk, by simpa using hk2, hkw, hkw2⟩
    have : Inhabited PtP := ⟨⟨0, 0⟩⟩
    obtain ⟨q, hq⟩ := Go.Deep.choose_lt each
    refine ⟨some ad, len, cap, (List.range len).map q, rfl, ⟨by simp, hl, hm, fun h => (by cases h), fun hn => ?_⟩, ?_, ?_⟩
    · obtain ⟨g, off, spot⟩ := ad
      obtain ⟨e1, e2⟩ := add_at (hi 0 (by omega)).1
      dsimp only at e1 e2
      subst e1
      refine ⟨g, off, rfl, e2, fun i p hp => ?_⟩
      obtain ⟨hil, rfl⟩ := map_range_get _ _ _ _ hp
      obtain ⟨c0, c1, _, _⟩ := hi i (by omega)
      rw [add_plain] at c0 c1
      exact ⟨c0.trans (by rw [(hq i hil).1]), by rw [← (hq i hil).2.1, ← c1]; rfl⟩
    · intro p hp
      obtain ⟨i, hi2, rfl⟩ := List.mem_map.1 hp
      have := hq i (List.mem_range.1 hi2)
      exact ⟨bounds_i64 this.2.2.1, bounds_i64 this.2.2.2⟩
    · have h1 := bulk_slice len (fun _ => 1) (fun i => DataW.agg [D0 i, D1 i]) ((List.range (m' - len)).map fun j => .agg [D0 (len + j), D1 (len + j)]) (fun i _ => bulk_one _)
      have h2 : ((List.range len).map fun _ => 1).sum = len := by simp [List.map_const']
      rw [h2] at h1
      exact Nat.le_trans (Nat.le_succ _) h1
theorem open_values {H : Type} {enc : TypeId × Value → H} {W : World} {m : Nat} {cs : List Value} {x : DataW H × List MemPlace} (h : DataW.trod enc Tryd.prog W 0 (fun _ => true) true m 35 cs = some x) :
    ∃ (A : Option Addr) (n c : Nat) (vs : List ValP), cs = [.slice A n c] ∧ VlI W W.heap.size A n c vs ∧ (∀ v ∈ vs, ValIn v) ∧ n + strN vs ≤ Rows.uptoBulk x.1 := by
  rcases Go.Deep.open_slice Tryd.underlying35 h with ⟨hcs, _⟩ | ⟨ad, len, cap, m', n', D, Pl, hcs, _, hl, hm, hmm, rfl, hi⟩
  · subst hcs
    exact ⟨none, 0, 0, [], rfl, ⟨rfl, by omega, by simp [maxLen], fun _ => ⟨rfl, rfl⟩, fun h => absurd h (by omega)⟩, (fun p hp => by cases hp), Nat.zero_le _⟩
  · subst hcs
    have hmn : len ≤ m' := by rw [hmm]; simpa using hl
    have ce : Tryd.prog.cellsOf 46 = 3 := by kernel_rfl
    have each : ∀ i, i < len → ∃ q : ValP, W.cell? (ad.add (i * 3)) = some (.int .u64 q.u) ∧ W.cell? (ad.add (i * 3 + 1)) = some (.int .i64 q.i) ∧ W.cell? (ad.add (i * 3 + 2)) = some (.string q.s) ∧ ValIn q ∧ 1 + q.s.size ≤ Rows.uptoBulk (D i) := by
      intro i hin
      obtain ⟨cs', h1, h2⟩ := hi i (by omega)
      rw [ce] at h1
      obtain ⟨_, hlen, hcell⟩ := World.cells?_some h1
      obtain ⟨y0, y1, y2, k, hxy, _, g0, g1, g2⟩ := Go.Deep.trod_struct3 (by first | exact Tryd.underlying46 | kernel_rfl) h2
      match cs', hlen with
      | [v0, v1, v2], _ =>
        have cu : Tryd.prog.cellsOf 44 = 1 := by kernel_rfl
        have ci : Tryd.prog.cellsOf 2 = 1 := by kernel_rfl
        have cstr : Tryd.prog.cellsOf 9 = 1 := by kernel_rfl
        simp [cu, ci, cstr] at g0 g1 g2
        obtain ⟨a, ha, ha2, haw⟩ := DataW.trod_int Tryd.underlying44 g0
        obtain ⟨b, hb, hb2, hbw⟩ := DataW.trod_int Tryd.underlying2 g1
        obtain ⟨s, hs, hs2, _⟩ := DataW.trod_string Tryd.underlying9 g2
        have e0 := hcell 0 (by omega)
        have e1 := hcell 1 (by omega)
        have e2 := hcell 2 (by omega)
        rw [Go.Deep.add_add] at e0 e1 e2
        simp only [List.cons.injEq, and_true] at ha hb hs
        subst ha hb hs
        refine ⟨⟨a, b, s⟩, by simpa using e0, by simpa using e1, by simpa using e2, ⟨bounds_u64 haw, bounds_i64 hbw⟩, ?_⟩
        simp only [Prod.mk.injEq] at hxy
        rw [hxy.1, bulk_struct3, hs2]
        simp [Rows.uptoBulk]
        omega
    have : Inhabited ValP := ⟨⟨0, 0, empS⟩⟩
    obtain ⟨q, hq⟩ := Go.Deep.choose_lt each
    refine ⟨some ad, len, cap, (List.range len).map q, rfl, ⟨by simp, hl, hm, fun h => (by cases h), fun hn => ?_⟩, ?_, ?_⟩
    · obtain ⟨g, off, spot⟩ := ad
      obtain ⟨e1, e2⟩ := add_at (hq 0 (by omega)).1
      dsimp only at e1 e2
      subst e1
      refine ⟨g, off, rfl, e2, fun i p hp => ?_⟩
      obtain ⟨hil, rfl⟩ := map_range_get _ _ _ _ hp
      obtain ⟨c0, c1, c2, _, _⟩ := hq i hil
      rw [add_plain] at c0 c1 c2
      exact ⟨c0, by rw [← c1]; rfl, by rw [← c2]; rfl⟩
    · intro p hp
      obtain ⟨i, hi2, rfl⟩ := List.mem_map.1 hp
      exact (hq i (List.mem_range.1 hi2)).2.2.2.1
    · have h1 := bulk_slice len (fun i => 1 + (q i).s.size) D ((List.range (m' - len)).map fun j => D (len + j)) (fun i hi => (hq i hi).2.2.2.2)
      have h2 := sum_ones (List.range len) (fun i => (q i).s.size)
      rw [List.length_range] at h2
      have h3 : strN ((List.range len).map q) = ((List.range len).map fun i => (q i).s.size).sum := by unfold strN; rw [List.map_map]; rfl
      rw [h3]
      exact Nat.le_trans (Nat.le_of_eq h2) (Nat.le_trans (Nat.le_succ _) h1)
/-- The numbers of blocks fit. -/
def BlksIn (bs : List BlkP) : Prop := ∀ b ∈ bs, (-9223372036854775808 ≤ b.id ∧ b.id ≤ 9223372036854775807) ∧ PtsIn b.pts
theorem open_blocks {H : Type} {enc : TypeId × Value → H} {W : World} {m : Nat} {cs : List Value} {x : DataW H × List MemPlace} (h : DataW.trod enc Tryd.prog W 0 (fun _ => true) true m 26 cs = some x) :
    ∃ (A : Option Addr) (n c : Nat) (bs : List BlkP), cs = [.slice A n c] ∧ BkI W W.heap.size A n c bs ∧ BlksIn bs ∧ partsN bs ≤ Rows.uptoBulk x.1 := by
  rcases Go.Deep.open_slice Tryd.underlying26 h with ⟨hcs, _⟩ | ⟨ad, len, cap, m', n', D, Pl, hcs, _, hl, hm, hmm, rfl, hi⟩
  · subst hcs
    exact ⟨none, 0, 0, [], rfl, ⟨rfl, by omega, by simp [maxLen], fun _ => ⟨rfl, rfl⟩, fun h => absurd h (by omega)⟩, (fun p hp => by cases hp), Nat.zero_le _⟩
  · subst hcs
    have hmn : len ≤ m' := by rw [hmm]; simpa using hl
    have ce : Tryd.prog.cellsOf 37 = 3 := by kernel_rfl
    have each : ∀ i, i < len → ∃ q : BlkP × (Option Addr × Nat × Nat) × (Option Addr × Nat × Nat), W.cell? (ad.add (i * 3)) = some (.int .i64 q.1.id) ∧ W.cell? (ad.add (i * 3 + 1)) = some (.slice q.2.1.1 q.2.1.2.1 q.2.1.2.2) ∧ W.cell? (ad.add (i * 3 + 2)) = some (.slice q.2.2.1 q.2.2.2.1 q.2.2.2.2) ∧ PtI W W.heap.size q.2.1.1 q.2.1.2.1 q.2.1.2.2 q.1.pts ∧ VlI W W.heap.size q.2.2.1 q.2.2.2.1 q.2.2.2.2 q.1.vals ∧ (∀ v ∈ q.1.vals, ValIn v) ∧ (((-9223372036854775808 ≤ q.1.id ∧ q.1.id ≤ 9223372036854775807) ∧ PtsIn q.1.pts) ∧ partN q.1 ≤ Rows.uptoBulk (D i)) := by
      intro i hin
      obtain ⟨cs', h1, h2⟩ := hi i (by omega)
      rw [ce] at h1
      obtain ⟨_, hlen, hcell⟩ := World.cells?_some h1
      obtain ⟨y0, y1, k, hxy, _, g0, g1⟩ := trod_struct2 (by first | exact Tryd.underlying37 | kernel_rfl) h2
      match cs', hlen with
      | [v0, v1, v2], _ =>
        have cd : Tryd.prog.cellsOf 34 = 2 := by kernel_rfl
        have cv : Tryd.prog.cellsOf 35 = 1 := by kernel_rfl
        have cp : Tryd.prog.cellsOf 32 = 1 := by kernel_rfl
        have ci : Tryd.prog.cellsOf 3 = 1 := by kernel_rfl
        simp [cd, cv] at g0 g1
        obtain ⟨z0, z1, k2, hz, _, j0, j1⟩ := trod_struct2 (by first | exact Tryd.underlying34 | kernel_rfl) g0
        simp [ci, cp] at j0 j1
        obtain ⟨a, ha, ha2, haw⟩ := DataW.trod_int Tryd.underlying3 j0
        obtain ⟨Ap, np, cpp, ps, hps, hP, hPin, hpb⟩ := open_points j1
        obtain ⟨Av, nv, cvv, vs, hvs, hV, hVin, hvb⟩ := open_values g1
        have e0 := hcell 0 (by omega)
        have e1 := hcell 1 (by omega)
        have e2 := hcell 2 (by omega)
        rw [Go.Deep.add_add] at e0 e1 e2
        simp only [List.cons.injEq, and_true] at ha hps hvs
        subst ha hps hvs
        refine ⟨(⟨a, ps, vs⟩, (Ap, np, cpp), (Av, nv, cvv)), by simpa using e0, by simpa using e1, by simpa using e2, hP, hV, hVin, ⟨bounds_i64 haw, hPin⟩, ?_⟩
        simp only [Prod.mk.injEq] at hxy
        have hz1 := congrArg Prod.fst hz
        dsimp only at hz1
        rw [hxy.1, bulk_struct2, hz1, bulk_struct2]
        have b1 := bulk_one z0.1
        have l1 := hP.1
        have l2 := hV.1
        unfold partN
        dsimp only
        omega
    have : Inhabited (BlkP × (Option Addr × Nat × Nat) × (Option Addr × Nat × Nat)) := ⟨(⟨0, [], []⟩, (none, 0, 0), (none, 0, 0))⟩
    obtain ⟨q, hq⟩ := Go.Deep.choose_lt each
    refine ⟨some ad, len, cap, (List.range len).map fun i => (q i).1, rfl, ⟨by simp, hl, hm, fun h => (by cases h), fun hn => ?_⟩, ?_, ?_⟩
    · obtain ⟨g, off, spot⟩ := ad
      obtain ⟨e1, e2⟩ := add_at (hq 0 (by omega)).1
      dsimp only at e1 e2
      subst e1
      refine ⟨g, off, rfl, e2, fun i p hp => ?_⟩
      obtain ⟨hil, rfl⟩ := map_range_get _ _ _ _ hp
      obtain ⟨c0, c1, c2, hP, hV, hVi, _⟩ := hq i hil
      rw [add_plain] at c0 c1 c2
      exact ⟨_, _, _, _, _, _, c0, by rw [← c1]; rfl, by rw [← c2]; rfl, hP, hV, hVi⟩
    · intro p hp
      obtain ⟨i, hi2, rfl⟩ := List.mem_map.1 hp
      exact (hq i (List.mem_range.1 hi2)).2.2.2.2.2.2.1
    · have h1 := bulk_slice len (fun i => partN (q i).1) D ((List.range (m' - len)).map fun j => D (len + j)) (fun i hi => (hq i hi).2.2.2.2.2.2.2)
      have h3 : partsN ((List.range len).map fun i => (q i).1) = ((List.range len).map fun i => partN (q i).1).sum := by unfold partsN; rw [List.map_map]; rfl
      rw [h3]
      exact Nat.le_trans (Nat.le_succ _) h1
end Go.Proofs.YtnnknnaimabehaaDoor
