/- Definitions: slices of them; model.may, slices.IndexFunc. -/
import Derived.Test.YtnnknnaimabehaaDoorModRow
import Derived.Test.YtnnknnaimabehaaDoorModClone
namespace Go.Proofs.YtnnknnaimabehaaDoor
open Go.ChangeShapes Go.WideShapes Go.ChangeAt Go.RowKit
set_option linter.unusedVariables false
set_option maxRecDepth 100000
/-- A definition. -/
structure DefP where
  id : Int
  pts : List PtP
/-- Definitions by value: a slice of structs of two cells. -/
def DfI (W : World) (B : Nat) (A : Option Addr) (n c : Nat) (ds : List DefP) : Prop :=
  ds.length = n ∧ n ≤ c ∧ c ≤ maxLen ∧ (A = none → n = 0 ∧ c = 0) ∧ (0 < n → ∃ g off, A = some ⟨g, off, none⟩ ∧ g < B ∧ ∀ i d, ds[i]? = some d → ∃ Ap np cp, W.cell? ⟨g, off + i * 2, none⟩ = some (.int .i64 d.id) ∧ W.cell? ⟨g, off + i * 2 + 1, none⟩ = some (.slice Ap np cp) ∧ PtI W B Ap np cp d.pts)
theorem DfI.up {w w' : World} {A : Option Addr} {n c : Nat} {ds : List DefP} (h : DfI w w.heap.size A n c ds) (hb : Below w.heap.size w w') : DfI w' w'.heap.size A n c ds := by
  obtain ⟨h1, h2, h3, h4, h5⟩ := h
  refine ⟨h1, h2, h3, h4, fun hn => ?_⟩
  obtain ⟨g, off, e, hg, hc⟩ := h5 hn
  refine ⟨g, off, e, Nat.lt_of_lt_of_le hg hb.size, fun i b hi => ?_⟩
  obtain ⟨Ap, np, cp, k1, k2, k4⟩ := hc i b hi
  exact ⟨Ap, np, cp, (hb.cell (p := ⟨g, off + i * 2, none⟩) hg).trans k1, (hb.cell (p := ⟨g, off + i * 2 + 1, none⟩) hg).trans k2, k4.up hb⟩
def DefsIn (ds : List DefP) : Prop := ∀ d ∈ ds, (-9223372036854775808 ≤ d.id ∧ d.id ≤ 9223372036854775807) ∧ PtsIn d.pts
def defN (d : DefP) : Nat := 1 + d.pts.length
def defsN (ds : List DefP) : Nat := (ds.map defN).sum
theorem defsN_next (bs : List DefP) (j : Nat) (b : DefP) (h : bs[j]? = some b) : defsN (bs.take (j + 1)) = defsN (bs.take j) + defN b := by
  obtain ⟨hj, rfl⟩ := List.getElem?_eq_some_iff.1 h
  rw [List.take_succ_eq_append_getElem hj]
  simp only [defsN, List.map_append, List.sum_append, List.map_cons, List.map_nil, List.sum_cons, List.sum_nil, Nat.add_zero]
theorem defsN_take (bs : List DefP) (j : Nat) : defsN (bs.take j) ≤ defsN bs := by
  conv => rhs; rw [← List.take_append_drop j bs]
  simp only [defsN, List.map_append, List.sum_append]
  omega
theorem defsN_len (bs : List DefP) : bs.length ≤ defsN bs := by
  induction bs with
  | nil => simp
  | cons b r ih =>
    have h : defsN (b :: r) = defN b + defsN r := by simp only [defsN, List.map_cons, List.sum_cons]
    have h2 : 1 ≤ defN b := by unfold defN; omega
    rw [h, List.length_cons]
    omega
theorem open_defs {H : Type} {enc : TypeId × Value → H} {W : World} {m : Nat} {cs : List Value} {x : DataW H × List MemPlace} (h : DataW.trod enc Tryd.prog W 0 (fun _ => true) true m 38 cs = some x) :
    ∃ (A : Option Addr) (n c : Nat) (ds : List DefP), cs = [.slice A n c] ∧ DfI W W.heap.size A n c ds ∧ DefsIn ds ∧ defsN ds ≤ Rows.uptoBulk x.1 := by
  rcases Go.Deep.open_slice Tryd.underlying38 h with ⟨hcs, _⟩ | ⟨ad, len, cap, m', n', D, Pl, hcs, _, hl, hm, hmm, rfl, hi⟩
  · subst hcs
    exact ⟨none, 0, 0, [], rfl, ⟨rfl, by omega, by simp [maxLen], fun _ => ⟨rfl, rfl⟩, fun h => absurd h (by omega)⟩, (fun p hp => by cases hp), Nat.zero_le _⟩
  · subst hcs
    have hmn : len ≤ m' := by rw [hmm]; simpa using hl
    have ce : Tryd.prog.cellsOf 34 = 2 := by kernel_rfl
    have each : ∀ i, i < len → ∃ q : DefP × (Option Addr × Nat × Nat), W.cell? (ad.add (i * 2)) = some (.int .i64 q.1.id) ∧ W.cell? (ad.add (i * 2 + 1)) = some (.slice q.2.1 q.2.2.1 q.2.2.2) ∧ PtI W W.heap.size q.2.1 q.2.2.1 q.2.2.2 q.1.pts ∧ (((-9223372036854775808 ≤ q.1.id ∧ q.1.id ≤ 9223372036854775807) ∧ PtsIn q.1.pts) ∧ defN q.1 ≤ Rows.uptoBulk (D i)) := by
      intro i hin
      obtain ⟨cs', h1, h2⟩ := hi i (by omega)
      rw [ce] at h1
      obtain ⟨_, hlen, hcell⟩ := World.cells?_some h1
      obtain ⟨z0, z1, k2, hz, _, j0, j1⟩ := trod_struct2 (by first | exact Tryd.underlying34 | kernel_rfl) h2
      match cs', hlen with
      | [v0, v1], _ =>
        have cp : Tryd.prog.cellsOf 32 = 1 := by kernel_rfl
        have ci : Tryd.prog.cellsOf 3 = 1 := by kernel_rfl
        simp [ci, cp] at j0 j1
        obtain ⟨a, ha, ha2, haw⟩ := DataW.trod_int Tryd.underlying3 j0
        obtain ⟨Ap, np, cpp, ps, hps, hP, hPin, hpb⟩ := open_points j1
        have e0 := hcell 0 (by omega)
        have e1 := hcell 1 (by omega)
        rw [Go.Deep.add_add] at e0 e1
        simp only [List.cons.injEq, and_true] at ha hps
        subst ha hps
        refine ⟨(⟨a, ps⟩, (Ap, np, cpp)), by simpa using e0, by simpa using e1, hP, ⟨bounds_i64 haw, hPin⟩, ?_⟩
        have hz1 := congrArg Prod.fst hz
        dsimp only at hz1
        rw [hz1, bulk_struct2]
        have b1 := bulk_one z0.1
        have l1 := hP.1
        unfold defN
        dsimp only
        omega
    have : Inhabited (DefP × (Option Addr × Nat × Nat)) := ⟨(⟨0, []⟩, (none, 0, 0))⟩
    obtain ⟨q, hq⟩ := Go.Deep.choose_lt each
    refine ⟨some ad, len, cap, (List.range len).map fun i => (q i).1, rfl, ⟨by simp, hl, hm, fun h => (by cases h), fun hn => ?_⟩, ?_, ?_⟩
    · obtain ⟨g, off, spot⟩ := ad
      obtain ⟨e1, e2⟩ := add_at (hq 0 (by omega)).1
      dsimp only at e1 e2
      subst e1
      refine ⟨g, off, rfl, e2, fun i p hp => ?_⟩
      obtain ⟨hil, rfl⟩ := map_range_get _ _ _ _ hp
      obtain ⟨c0, c1, hP, _⟩ := hq i hil
      rw [add_plain] at c0 c1
      exact ⟨_, _, _, c0, by rw [← c1]; rfl, hP⟩
    · intro p hp
      obtain ⟨i, hi2, rfl⟩ := List.mem_map.1 hp
      exact (hq i (List.mem_range.1 hi2)).2.2.2.1
    · have h1 := bulk_slice len (fun i => defN (q i).1) D ((List.range (m' - len)).map fun j => D (len + j)) (fun i hi => (hq i hi).2.2.2.2)
      have h3 : defsN ((List.range len).map fun i => (q i).1) = ((List.range len).map fun i => defN (q i).1).sum := by unfold defsN; rw [List.map_map]; rfl
      rw [h3]
      exact Nat.le_trans (Nat.le_succ _) h1
/-- The first definition with the ID. -/
def idxP (id : Int) : List DefP → Option Nat
  | [] => none
  | d :: r => if d.id = id then some 0 else (idxP id r).map (· + 1)
theorem idxP_some (id : Int) (ds : List DefP) : ∀ i, idxP id ds = some i → ∃ d, ds[i]? = some d ∧ d.id = id ∧ ∀ (k : Nat) (e : DefP), k < i → ds[k]? = some e → e.id ≠ id := by
  induction ds with
  | nil => intro i h; cases h
  | cons a r ih =>
    intro i h
    unfold idxP at h
    split at h
    · injection h with h
      subst h
      exact ⟨a, rfl, by assumption, fun k e hk => absurd hk (by omega)⟩
    · rename_i hne
      cases hr : idxP id r with
      | none => rw [hr] at h; cases h
      | some j =>
        rw [hr] at h
        obtain rfl : j + 1 = i := by simpa using h
        obtain ⟨d, h1, h2, h3⟩ := ih j hr
        refine ⟨d, by simpa using h1, h2, fun k e hk he => ?_⟩
        cases k with
        | zero => obtain rfl : a = e := by simpa using he
                  exact hne
        | succ k => exact h3 k e (by omega) (by simpa using he)
theorem idxP_none (id : Int) (ds : List DefP) (h : idxP id ds = none) : ∀ (k : Nat) (e : DefP), ds[k]? = some e → e.id ≠ id := by
  induction ds with
  | nil => intro k e he; cases he
  | cons a r ih =>
    intro k e he
    unfold idxP at h
    split at h
    · cases h
    · rename_i hne
      have hr : idxP id r = none := by simpa using h
      cases k with
      | zero => obtain rfl : a = e := by simpa using he
                exact hne
      | succ k => exact ih hr k e (by simpa using he)
/-- May definitions be? -/
def mayD (ds : List DefP) : Prop := ∀ (i : Nat) (d : DefP), ds[i]? = some d → defB d.id d.pts = true ∧ ∀ (k : Nat) (e : DefP), k < i → ds[k]? = some e → e.id ≠ d.id
end Go.Proofs.YtnnknnaimabehaaDoor
namespace Go.Proofs.YtnnknnaimabehaaDoor
open Go.RowKit
set_option linter.unusedVariables false
set_option maxRecDepth 100000
def idxV (o : Option Nat) : Int := match o with
  | some i => (i : Int)
  | none => -1
theorem idxP_at (id : Int) (ds : List DefP) (i : Nat) (d : DefP) (hd : ds[i]? = some d) (he : d.id = id) (hn : ∀ (k : Nat) (e : DefP), k < i → ds[k]? = some e → e.id ≠ id) : idxP id ds = some i := by
  induction ds generalizing i with
  | nil => cases hd
  | cons a r ih =>
    cases i with
    | zero =>
      obtain rfl : a = d := by simpa using hd
      unfold idxP
      rw [if_pos he]
    | succ i =>
      unfold idxP
      rw [if_neg (hn 0 a (by omega) rfl), ih i (by simpa using hd) (fun k e hk hke => hn (k + 1) e (by omega) (by simpa using hke))]
      rfl
theorem idxP_no (id : Int) (ds : List DefP) (hn : ∀ (k : Nat) (e : DefP), ds[k]? = some e → e.id ≠ id) : idxP id ds = none := by
  induction ds with
  | nil => rfl
  | cons a r ih =>
    unfold idxP
    rw [if_neg (hn 0 a rfl), ih (fun k e hk => hn (k + 1) e (by simpa using hk))]
    rfl
set_option maxHeartbeats 1000000 in
theorem idxf_any (f : FuncId) (Bc : Nat) (id : Int) (A : Option Addr) (n c : Nat) (ds : List DefP) (w : World) (hD : DfI w w.heap.size A n c ds) (hcf : ∀ xs W, (callFunc f xs).run Tryd.prog W = .ok (.enter f xs) W)
    (hF : ∀ (X : World), Below w.heap.size w X → ∀ (i : Int) (Ap : Option Addr) (np cp : Nat), Calls Tryd.prog f #[.agg #[.int .i64 i, .slice Ap np cp], .pointer (some ⟨Bc, 0, none⟩)] X fun e X' => e = .returned (.bool (i == id)) ∧ Below X.heap.size X X') :
    Calls Tryd.prog 22 #[.slice A n c, .func (.func f) #[] #[.pointer (some ⟨Bc, 0, none⟩)]] w fun e w' => e = .returned (.int .i64 (idxV (idxP id ds))) ∧ Below w.heap.size w w' := by
  have hl := hD.1
  have hm : n ≤ maxLen := Nat.le_trans hD.2.1 hD.2.2.1
  unfold maxLen at hm
  have HD := Lib.hid (fun (X : World) (h : Below w.heap.size w X) => hD.up h)
  have HL := Lib.hid hl
  have HF := Lib.hid hF
  obtain ⟨R, hR⟩ : ∃ R, idxV (idxP id ds) = R := ⟨_, rfl⟩
  have HR := Lib.hid hR
  rw [hR]
  clear hD hl hF hR
  go_in
  go_wp2
  go_loopw [8] (fun s8 wx => ∃ (j : Nat), j ≤ n ∧ s8 = .int .i64 j ∧ (∀ (k : Nat) (e : DefP), k < j → ds[k]? = some e → e.id ≠ id) ∧ Below w.heap.size w wx) (fun s8 _ => n - (intOf s8).toNat)
  case atStart => exact ⟨0, Nat.zero_le _, rfl, fun k e hk => absurd hk (by omega), Below.refl _ _⟩
  case round =>
    obtain ⟨j, hj, rfl, hno, hbr⟩ := hrel
    have HNO := Lib.hid hno
    clear hno
    by_cases hlt : j < n
    · obtain ⟨⟨i, ps⟩, hd⟩ : ∃ d, ds[j]? = some d := ⟨_, List.getElem?_eq_getElem (by rw [HL.out]; exact hlt)⟩
      obtain ⟨g, off, rfl, hg, hc⟩ := (HD.out wr hbr).2.2.2.2 (by omega)
      obtain ⟨Ap, np, cp, c0, c1, _⟩ := hc j _ hd
      dsimp only at c0
      have HDJ := Lib.hid hd
      have hltI : (j : Int) < (n : Int) := by omega
      clear hc hd
      by_cases he : i = id
      · have t1 : (i == id) = true := by simpa using he
        have hr : R = (j : Int) := by rw [← HR.out, idxP_at id ds j _ HDJ.out he HNO.out]; rfl
        subst hr
        have HC := Lib.hid (HF.out wr hbr i Ap np cp)
        rw [t1] at HC
        clear he t1
        go_wp2_with fail
        refine HC.out.mono ?_
        rintro e w2 ⟨rfl, hb2⟩
        go_wp2_with fail
        go_ret
        exact ⟨rfl, hbr.trans (hb2.mono hbr.size)⟩
      · have t1 : (i == id) = false := by simpa using he
        have HC := Lib.hid (HF.out wr hbr i Ap np cp)
        rw [t1] at HC
        have HE := Lib.hid he
        clear he t1
        go_wp2_with fail
        refine HC.out.mono ?_
        rintro e w2 ⟨rfl, hb2⟩
        go_wp2_with fail
        go_roundw
        case rel => exact ⟨j + 1, by omega, by go_num, fun k e hk hke => by
          rcases Nat.lt_or_ge k j with h | h
          · exact HNO.out k e h hke
          · obtain rfl : k = j := by omega
            rw [HDJ.out] at hke
            injection hke with hke
            rw [← hke]
            exact HE.out, hbr.trans (hb2.mono hbr.size)⟩
        case measure => simp [intOf]; omega
    · obtain rfl : j = n := by omega
      have hr : R = -1 := by
        rw [← HR.out, idxP_no id ds (fun k e hk => HNO.out k e (by rw [← HL.out]; exact (List.getElem?_eq_some_iff.1 hk).1) hk)]
        rfl
      subst hr
      go_wp2
      go_ret
      exact ⟨rfl, hbr⟩
set_option maxHeartbeats 1000000 in
theorem may1_any (Bc : Nat) (id : Int) (A' : Option Addr) (n' c' : Nat) (i : Int) (Ap : Option Addr) (np cp : Nat) (X : World) (hB : Held X Bc 34 #[.int .i64 id, .slice A' n' c']) :
    Calls Tryd.prog 36 #[.agg #[.int .i64 i, .slice Ap np cp], .pointer (some ⟨Bc, 0, none⟩)] X fun e X' => e = .returned (.bool (i == id)) ∧ Below X.heap.size X X' := by
  obtain ⟨w1, hw1⟩ : ∃ W, X.alloc (.cells #[.int .i64 i, .slice Ap np cp] 34) = W := ⟨_, rfl⟩
  have hb1 : Below X.heap.size X w1 := by rw [← hw1]; exact (Below.refl _ X).alloc (Nat.le_refl _) _
  have hK1 : Held w1 X.heap.size 34 #[.int .i64 i, .slice Ap np cp] := by rw [← hw1]; exact Held.new X _ _
  have hB1 := hB.below hb1 hB.lt
  have k0 := hK1.cell 0
  have b0 := hB1.cell 0
  clear hB
  go_in
  go_wp2
  go_ret
  exact ⟨rfl, hb1⟩
theorem DfI.take {W : World} {B : Nat} {A : Option Addr} {n c : Nat} {ds : List DefP} (h : DfI W B A n c ds) (m : Nat) (hm : m ≤ n) : DfI W B A m c (ds.take m) := by
  obtain ⟨h1, h2, h3, h4, h5⟩ := h
  refine ⟨by rw [List.length_take]; omega, by omega, h3, (fun e => by have := h4 e; omega), fun hn => ?_⟩
  obtain ⟨g, off, e, hg, hc⟩ := h5 (by omega)
  refine ⟨g, off, e, hg, fun i d hd => ?_⟩
  rw [List.getElem?_take] at hd
  split at hd
  · exact hc i d hd
  · cases hd
set_option maxHeartbeats 1000000 in
theorem contf_any (f : FuncId) (Bc : Nat) (id : Int) (A : Option Addr) (n c : Nat) (ds : List DefP) (w : World) (hD : DfI w w.heap.size A n c ds) (hcf : ∀ xs W, (callFunc f xs).run Tryd.prog W = .ok (.enter f xs) W)
    (hF : ∀ (X : World), Below w.heap.size w X → ∀ (i : Int) (Ap : Option Addr) (np cp : Nat), Calls Tryd.prog f #[.agg #[.int .i64 i, .slice Ap np cp], .pointer (some ⟨Bc, 0, none⟩)] X fun e X' => e = .returned (.bool (i == id)) ∧ Below X.heap.size X X') :
    Calls Tryd.prog 35 #[.slice A n c, .func (.func f) #[] #[.pointer (some ⟨Bc, 0, none⟩)]] w fun e w' => e = .returned (.bool (idxP id ds).isSome) ∧ Below w.heap.size w w' := by
  have HI := Lib.hid (idxf_any f Bc id A n c ds w hD hcf hF)
  clear hD hF
  obtain ⟨o, ho⟩ : ∃ o, idxP id ds = o := ⟨_, rfl⟩
  rw [ho] at HI ⊢
  clear ho
  cases o with
  | none =>
    unfold idxV at HI
    dsimp only at HI
    go_in
    go_wp2_with fail
    refine HI.out.mono ?_
    rintro e w2 ⟨rfl, hb2⟩
    go_wp2_with fail
    go_ret
    exact ⟨rfl, hb2⟩
  | some i =>
    unfold idxV at HI
    dsimp only at HI
    have t1 : (i : Int) ≥ 0 := by omega
    go_in
    go_wp2_with fail
    refine HI.out.mono ?_
    rintro e w2 ⟨rfl, hb2⟩
    go_wp2_with fail
    go_ret
    exact ⟨rfl, hb2⟩
theorem mayD_next (ds : List DefP) (j : Nat) (d : DefP) (hd : ds[j]? = some d) (h : ∀ (i : Nat) (e : DefP), i < j → ds[i]? = some e → defB e.id e.pts = true ∧ ∀ (k : Nat) (x : DefP), k < i → ds[k]? = some x → x.id ≠ e.id) (hb : defB d.id d.pts = true) (hi : idxP d.id (ds.take j) = none) :
    ∀ (i : Nat) (e : DefP), i < j + 1 → ds[i]? = some e → defB e.id e.pts = true ∧ ∀ (k : Nat) (x : DefP), k < i → ds[k]? = some x → x.id ≠ e.id := by
  intro i e hi2 he
  rcases Nat.lt_or_ge i j with h2 | h2
  · exact h i e h2 he
  · obtain rfl : i = j := by omega
    rw [hd] at he
    injection he with he
    subst he
    exact ⟨hb, fun k x hk hx => idxP_none d.id (ds.take i) hi k x (by rw [List.getElem?_take, if_pos hk]; exact hx)⟩
set_option maxHeartbeats 2000000 in
theorem mmay_any (A : Option Addr) (n c : Nat) (ds : List DefP) (w : World) (hD : DfI w w.heap.size A n c ds) :
    Calls Tryd.prog 21 #[.slice A n c] w fun e w' => ∃ b, e = .returned (.bool b) ∧ (b = true ↔ mayD ds) ∧ Below w.heap.size w w' := by
  have hl := hD.1
  have hm : n ≤ maxLen := Nat.le_trans hD.2.1 hD.2.2.1
  unfold maxLen at hm
  have HD := Lib.hid (fun (X : World) (h : Below w.heap.size w X) => hD.up h)
  have HL := Lib.hid hl
  clear hD hl
  have hcf1 := fun (xs : Array Value) (W : World) => (enters_of Tryd.func36 (by kernel_rfl) rfl xs W : (callFunc 36 xs).run Tryd.prog W = .ok (.enter 36 xs) W)
  go_in
  go_wp2
  go_loopw [9] (fun s9 wx => ∃ (j : Nat), j ≤ n ∧ s9 = .int .i64 j ∧ (∀ (i : Nat) (e : DefP), i < j → ds[i]? = some e → defB e.id e.pts = true ∧ ∀ (k : Nat) (x : DefP), k < i → ds[k]? = some x → x.id ≠ e.id) ∧ Below w.heap.size w wx) (fun s9 _ => n - (intOf s9).toNat)
  case atStart => exact ⟨0, Nat.zero_le _, rfl, fun k e hk => absurd hk (by omega), Below.refl _ _⟩
  case round =>
    obtain ⟨j, hj, rfl, hno, hbr⟩ := hrel
    have HNO := Lib.hid hno
    clear hno
    by_cases hlt : j < n
    · obtain ⟨⟨id, ps⟩, hd⟩ : ∃ d, ds[j]? = some d := ⟨_, List.getElem?_eq_getElem (by rw [HL.out]; exact hlt)⟩
      obtain ⟨g, off, rfl, hg, hc⟩ := (HD.out wr hbr).2.2.2.2 (by omega)
      obtain ⟨Ap, np, cp, c0, c1, hP⟩ := hc j _ hd
      dsimp only at c0 hP
      have HDJ := Lib.hid hd
      have hltI : (j : Int) < (n : Int) := by omega
      clear hc hd
      obtain ⟨w2, hw2⟩ : ∃ W, wr.alloc (.cells #[.int .i64 id, .slice Ap np cp] 34) = W := ⟨_, rfl⟩
      have hb2 : Below wr.heap.size wr w2 := by rw [← hw2]; exact (Below.refl _ _).alloc (Nat.le_refl _) _
      have hK2 : Held w2 wr.heap.size 34 #[.int .i64 id, .slice Ap np cp] := by rw [← hw2]; exact Held.new _ _ _
      have k0 := hK2.cell 0
      have k1 := hK2.cell 1
      have HLN := Lib.hid (mlen_any id Ap np cp ps w2 (hP.up hb2))
      obtain ⟨LN, hLN⟩ : ∃ L, lenP id ps = L := ⟨_, rfl⟩
      rw [hLN] at HLN
      have hb2w := hbr.trans (hb2.mono hbr.size)
      have hcl : j ≤ c := by have := (HD.out wr hbr).2.1; omega
      have HCT := Lib.hid (fun (X : World) (h : Below w2.heap.size w2 X) => contf_any 36 wr.heap.size id (some ⟨g, off, none⟩) j c (ds.take j) X (((HD.out w2 hb2w).up h).take j (by omega)) hcf1 (fun Y hY i Ai ni ci => may1_any wr.heap.size id Ap np cp i Ai ni ci Y (hK2.below (h.trans (hY.mono h.size)) hK2.lt)))
      obtain ⟨o, ho⟩ : ∃ o, idxP id (ds.take j) = o := ⟨_, rfl⟩
      rw [ho] at HCT
      have HO := Lib.hid ho
      clear hP hLN ho
      cases hdf : defB id ps with
      | false =>
        rw [hdf] at HLN
        have HLN2 : Hid (Calls Tryd.prog 10 #[.agg #[.int .i64 id, .slice Ap np cp]] w2 fun e w' => e = .returned (.tuple #[.int .i64 LN, .int .i64 260]) ∧ Below w2.heap.size w2 w') := Lib.hid (by simpa using HLN.out)
        have HDF := Lib.hid hdf
        clear HLN hdf hK2 HCT
        go_wp2_with fail
        refine HLN2.out.mono ?_
        rintro e w3 ⟨rfl, hb3⟩
        go_wp2_with fail
        go_ret
        exact ⟨false, rfl, ⟨(fun h => by cases h), fun h => by have := (h j _ HDJ.out).1; rw [HDF.out] at this; cases this⟩, hb2w.trans (hb3.mono hb2w.size)⟩
      | true =>
        rw [hdf] at HLN
        have HLN2 : Hid (Calls Tryd.prog 10 #[.agg #[.int .i64 id, .slice Ap np cp]] w2 fun e w' => e = .returned (.tuple #[.int .i64 LN, .int .i64 0]) ∧ Below w2.heap.size w2 w') := Lib.hid (by simpa using HLN.out)
        have HDF := Lib.hid hdf
        clear HLN hdf hK2
        go_wp2_with fail
        refine HLN2.out.mono ?_
        rintro e w3 ⟨rfl, hb3⟩
        have hb3w := hb2w.trans (hb3.mono hb2w.size)
        have hjc : (j : Int) ≤ (c : Int) := by omega
        cases o with
        | none =>
          have hmn := mayD_next ds j _ HDJ.out HNO.out HDF.out HO.out
          have HMN := Lib.hid hmn
          have hos : (none : Option Nat).isSome = false := rfl
          rw [hos] at HCT
          clear hmn hos
          go_wp2_with fail
          refine (HCT.out w3 hb3).mono ?_
          rintro e w4 ⟨rfl, hb4⟩
          go_wp2_with fail
          go_roundw
          case rel => exact ⟨j + 1, by omega, by go_num, HMN.out, hb3w.trans (hb4.mono hb3w.size)⟩
          case measure => simp [intOf]; omega
        | some q =>
          have hos : (some q : Option Nat).isSome = true := rfl
          rw [hos] at HCT
          clear hos
          go_wp2_with fail
          refine (HCT.out w3 hb3).mono ?_
          rintro e w4 ⟨rfl, hb4⟩
          go_wp2_with fail
          go_ret
          refine ⟨false, rfl, ⟨(fun h => by cases h), fun h => ?_⟩, hb3w.trans (hb4.mono hb3w.size)⟩
          obtain ⟨d, h1, h2, _⟩ := idxP_some id (ds.take j) q HO.out
          rw [List.getElem?_take] at h1
          split at h1
          · rename_i hqj
            exact absurd h2 ((h j _ HDJ.out).2 q d hqj h1)
          · cases h1
    · obtain rfl : j = n := by omega
      go_wp2
      go_ret
      exact ⟨true, rfl, ⟨fun _ i d hd => HNO.out i d (by rw [← HL.out]; exact (List.getElem?_eq_some_iff.1 hd).1) hd, fun _ => rfl⟩, hbr⟩
end Go.Proofs.YtnnknnaimabehaaDoor
