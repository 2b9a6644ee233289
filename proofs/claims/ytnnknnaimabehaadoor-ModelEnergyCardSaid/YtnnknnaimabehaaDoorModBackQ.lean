/- An image is read as its blocks, in plain Lean. -/
import Derived.Test.YtnnknnaimabehaaDoorModReadP
import Derived.Test.YtnnknnaimabehaaDoorModIdx
import Derived.Test.YtnnknnaimabehaaDoorRegsTextsSl
import Derived.Test.YtnnknnaimabehaaDoorModRead
namespace Go.Proofs.YtnnknnaimabehaaDoor
open Go.RowKit
set_option linter.unusedVariables false
theorem mrbyte_txt (s : ByteArray) (m i : Nat) (hi : i < 2 * m) : rbyte (txtL s m s.size) i = chr s i := by
  rw [txtL_full]
  have hk : i / 2 < m := by omega
  have h1 : ((List.range m).map fun k => chr s (2 * k) * 256 + chr s (2 * k + 1)).getD (i / 2) 0 = chr s (2 * (i / 2)) * 256 + chr s (2 * (i / 2) + 1) := by
    rw [List.getD, List.getElem?_map, List.getElem?_range hk]; rfl
  have a := chr_in s (2 * (i / 2))
  have b := chr_in s (2 * (i / 2) + 1)
  unfold rbyte
  rw [h1]
  rcases Nat.mod_two_eq_zero_or_one i with h | h
  · rw [if_pos h]
    have e : 2 * (i / 2) = i := by omega
    rw [e] at a b ⊢
    omega
  · rw [if_neg (by omega)]
    have e : 2 * (i / 2) + 1 = i := by omega
    rw [e] at b ⊢
    omega
theorem mstrU_chr (s : ByteArray) : strU ((List.range s.size).map (chr s)) = s := by
  apply ByteArray.ext
  apply Array.ext'
  simp only [strU, List.map_map]
  apply List.ext_getElem?
  intro i
  rcases Nat.lt_or_ge i s.size with h | h
  · have hi : i < s.data.toList.length := by rw [Array.length_toList]; exact h
    rw [List.getElem?_map, List.getElem?_range h, List.getElem?_eq_getElem hi]
    simp only [Option.map_some, Function.comp, chr]
    congr 1
    rw [List.getD, List.getElem?_eq_getElem hi]
    simp
  · rw [List.getElem?_eq_none (by simpa using h), List.getElem?_eq_none (by rw [Array.length_toList]; exact h)]
theorem txtS_undone (s : ByteArray) (m : Nat) (hok : txtOk s m) : txtS (txtL s m s.size) = s := by
  have hsz : s.size ≤ 2 * m := by have := hok.2.2.1; omega
  unfold txtS
  have hch := Classical.choose_spec (first_is (rbyte (txtL s m s.size)) (2 * (txtL s m s.size).length))
  obtain ⟨k, hk0⟩ : ∃ k, Classical.choose (first_is (rbyte (txtL s m s.size)) (2 * (txtL s m s.size).length)) = k := ⟨_, rfl⟩
  rw [hk0] at hch ⊢
  rw [txtL_len] at hch
  obtain ⟨hk, h2, h3⟩ := hch
  have : s.size = k := by
    refine first_one (chr s) (2 * m) s.size k hsz hk hok.2.2.2 ?_ (fun i hi h0 => h2 i hi (by rw [mrbyte_txt s m i (by omega), h0])) ?_
    · rcases Nat.eq_or_lt_of_le hsz with h | h
      · exact Or.inl h
      · exact Or.inr (chr_out s _ (Nat.le_refl _))
    · rcases h3 with h3 | h3
      · exact Or.inl h3
      · rcases Nat.lt_or_ge k (2 * m) with h | h
        · rw [mrbyte_txt s m k h] at h3; exact Or.inr h3
        · exact Or.inl (by omega)
  rw [← this, show rbytes (txtL s m s.size) s.size = (List.range s.size).map (chr s) from List.map_congr_left fun i hi => mrbyte_txt s m i (by have h9 : i < s.size := (by simpa using hi); omega), mstrU_chr]
theorem valX_undone (u m : Int) (h0 : 0 ≤ u) (h1 : u ≤ 18446744073709551615) (h : wordsB u m 1 = true) : valX (wordsX u m 1) 1 = u := by
  unfold wordsX
  rw [if_pos h]
  have ht : ∀ l : List Int, turnL 1 l = l := fun l => by simp [turnL]
  rw [ht]
  unfold wordsB at h
  rw [Bool.and_eq_true] at h
  have hf := h.1
  simp only [fitsB, decide_eq_true_eq] at hf
  unfold valX
  have hv : valB (bigW u m).length 1 = true := by
    rcases hf with ⟨rfl, _⟩ | ⟨rfl, _⟩ | rfl <;> rfl
  rw [hv, if_pos rfl, ht]
  rcases hf with ⟨rfl, hf⟩ | ⟨rfl, hf⟩ | rfl
  · simp [bigW, valN]; omega
  · simp [bigW, valN]; omega
  · simp [bigW, valN]; omega
theorem signed_undone (n m : Int) (h : unsB n m = true) : signedV (unsV n m) m = n := by
  have hf : fitsB (unsV n m) m = true := by
    simp only [unsV, h, if_true, fitsB, decide_eq_true_eq]
    simp only [unsB, decide_eq_true_eq] at h
    obtain ⟨rfl | rfl | rfl, h1, h2⟩ := h <;> simp [halfS] at h1 h2 ⊢ <;> split <;> omega
  unfold signedV
  rw [hf, if_pos rfl]
  unfold unsV
  rw [h, if_pos rfl]
  simp only [unsB, decide_eq_true_eq] at h
  obtain ⟨rfl | rfl | rfl, h1, h2⟩ := h <;> simp [halfS] at h1 h2 ⊢ <;> split <;> (try split) <;> omega
theorem rdV_undone (p : PtP) (v : ValP) (hv : ValIn v) (l : List Int) (h : ptWords p v = some l) : rdV p l = v := by
  obtain ⟨u, i, s⟩ := v
  obtain ⟨⟨h0, h1⟩, h2, h3⟩ := hv
  simp only at h0 h1 h2 h3
  unfold ptWords at h
  unfold rdV
  split at h
  · rename_i hk
    rw [if_pos hk]
    unfold textP at h
    split at h
    · rename_i ht
      injection h with h
      dsimp only at ht h
      obtain ⟨⟨rfl, rfl⟩, hok⟩ := ht
      obtain ⟨m, hm⟩ := Int.eq_ofNat_of_zero_le hok.1
      rw [hm] at hok h
      rw [← h, Int.toNat_natCast, txtS_undone s m hok]
    · cases h
  · rename_i hk
    rw [if_neg hk]
    split at h
    · rename_i hk2
      rw [if_pos hk2]
      unfold signedP someW at h
      split at h
      · rename_i ht
        injection h with h
        rw [Bool.and_eq_true, decide_eq_true_eq] at ht
        dsimp only at ht h
        obtain ⟨hu, rfl, rfl⟩ := ht
        have hin := uns_in i p.words hu
        rw [← h, valX_undone _ _ hin.1 hin.2 (uns_words i p.words hu), signed_undone i p.words hu]
      · cases h
    · rename_i hk2
      rw [if_neg hk2]
      unfold plainP someW at h
      split at h
      · rename_i ht
        injection h with h
        rw [Bool.and_eq_true, decide_eq_true_eq] at ht
        dsimp only at ht h
        obtain ⟨⟨rfl, rfl⟩, hw⟩ := ht
        rw [← h, valX_undone _ _ h0 h1 hw]
      · cases h
theorem seqW_undone (ps : List PtP) (vs : List ValP) (hps : ps.all ptB = true) (hvs : ∀ v ∈ vs, ValIn v) (k : Nat) (L : List Int) (h : seqW ps vs k = some L) (hk : k ≤ ps.length) : L.length = sumT (ps.take k) ∧ ∀ r, rdVs (ps.take k) (L ++ r) = vs.take k := by
  induction k generalizing L with
  | zero =>
    simp [seqW] at h
    subst h
    exact ⟨by simp [sumT], fun r => by simp [rdVs]⟩
  | succ k ih =>
    obtain ⟨p, hp⟩ : ∃ p, ps[k]? = some p := ⟨_, List.getElem?_eq_getElem (by omega)⟩
    cases hL : seqW ps vs k with
    | none => simp [seqW, hL] at h
    | some M =>
      cases hv : vs[k]? with
      | none => simp [seqW, hL, hp, hv] at h
      | some v =>
        rw [seqW_next ps vs k M p v hL hp hv] at h
        cases hw : ptWords p v with
        | none => rw [hw] at h; cases h
        | some l =>
          rw [hw] at h
          simp at h
          obtain ⟨h1, h2⟩ := ih M hL (by omega)
          have h3 := pt_len p v l hw
          have h4 : ptB p = true := List.all_eq_true.1 hps p (List.mem_of_getElem? hp)
          have h5 := ptB_in h4
          have hvk : vs.take (k + 1) = vs.take k ++ [v] := by
            obtain ⟨hj, rfl⟩ := List.getElem?_eq_some_iff.1 hv
            rw [List.take_succ_eq_append_getElem hj]
          refine ⟨by rw [sumT_next ps k p hp, ← h, List.length_append, h1]; omega, fun r => ?_⟩
          rw [rdVs_next ps k p _ hp, ← h, List.append_assoc, h2, hvk, ← h1, List.drop_left, List.take_left' (by omega), rdV_undone p v (hvs v (List.mem_of_getElem? hv)) l hw]
/-- What a list of definitions must have of a block. -/
def HasD (ds : List DefP) (b : BlkP) : Prop := (∃ m, blkB b = some m) ∧ (∀ v ∈ b.vals, ValIn v) ∧ ∃ (i : Nat) (d : DefP), ds[i]? = some d ∧ d.id = b.id ∧ d.pts = b.pts
theorem idx_has (ds : List DefP) (hm : mayD ds) (i : Nat) (d : DefP) (hd : ds[i]? = some d) : idxP d.id ds = some i :=
  idxP_at d.id ds i d hd rfl (fun k e hk he => (hm i d hd).2 k e hk he)
theorem rdL_undone (ds : List DefP) (hm : mayD ds) (bs : List BlkP) : ∀ (y : List Int) (f : Nat), (∀ b ∈ bs, HasD ds b) → partsP bs = some y → bs.length < f → rdL ds f (y ++ [65535, 0]) = some (bs, [65535, 0]) := by
  induction bs with
  | nil =>
    intro y f _ hy hf
    simp [partsP] at hy
    subst hy
    obtain ⟨f', rfl⟩ : ∃ f', f = f' + 1 := ⟨f - 1, by omega⟩
    unfold rdL
    rw [if_neg (fun h => h.2 rfl)]
    rfl
  | cons b r ih =>
    intro y f hb hy hf
    obtain ⟨f', rfl⟩ : ∃ f', f = f' + 1 := ⟨f - 1, by omega⟩
    obtain ⟨⟨m, hmb⟩, hvi, i, d, hd, hid, hpt⟩ := hb b (List.mem_cons_self ..)
    simp only [partsP] at hy
    have hpb : partB b = some ([b.id, (m.length : Int)] ++ m) := by unfold partB; rw [hmb]; rfl
    rw [hpb] at hy
    cases hr : partsP r with
    | none => rw [hr] at hy; cases hy
    | some z =>
      rw [hr] at hy
      injection hy with hy
      obtain ⟨⟨h1, h2⟩, hml, _, hlen, hdf⟩ := blk_in b m hmb
      have hix := idx_has ds hm i d hd
      rw [hid] at hix
      have hgd : ds.getD i ⟨0, []⟩ = d := by simp [List.getD, hd]
      have hps : b.pts.all ptB = true := by unfold defB at hdf; rw [Bool.and_eq_true] at hdf; exact hdf.2
      have hsq : seqW b.pts b.vals b.pts.length = some m := by
        unfold blkB blkW at hmb
        rw [if_pos ⟨hdf, hlen⟩] at hmb
        exact hmb
      obtain ⟨hT, hV⟩ := seqW_undone b.pts b.vals hps hvi _ m hsq (Nat.le_refl _)
      rw [List.take_length] at hT hV
      have hl0 : ((y ++ [65535, 0] : List Int)).getD 0 0 = b.id := by rw [← hy]; rfl
      have hl2 : (y ++ [65535, 0] : List Int).drop 2 = m ++ (z ++ [65535, 0]) := by rw [← hy]; simp
      have hlT : (y ++ [65535, 0] : List Int).drop (2 + sumT b.pts) = z ++ [65535, 0] := by rw [← List.drop_drop, hl2, ← hT, List.drop_left]
      have hyl : (y ++ [65535, 0] : List Int).length = 2 + m.length + (z.length + 2) := by rw [← hy]; simp; omega
      unfold rdL
      rw [if_pos ⟨by omega, by rw [hl0]; omega⟩, hl0, hix]
      dsimp only
      rw [hgd, hpt, if_neg (by omega), hlT, ih z f' (fun b hb' => hb b (List.mem_cons_of_mem _ hb')) hr (by simp at hf; omega), hl2]
      dsimp only
      unfold blkR
      rw [hpt, hid, hV _, ← hlen, List.take_length]
/-- An image is read as its blocks. -/
theorem readP_undone (ds : List DefP) (hm : mayD ds) (bs : List BlkP) (X : List Int) (hb : ∀ b ∈ bs, HasD ds b) (hX : imageP bs = some X) : readP ds X = some bs := by
  obtain ⟨y, hy, hXe, _⟩ := image_some bs X hX
  have h2 := partsP_ids bs y hy
  have hd : X.drop 2 = y ++ [65535, 0] := by rw [hXe]; simp
  have hl : X.length = y.length + 4 := by rw [hXe]; simp
  have h := rdL_undone ds hm bs y (X.length + 1) hb hy (by omega)
  unfold readP
  rw [if_pos ⟨hm, by omega⟩, hd, h]
  dsimp only
  rw [if_pos hX]
theorem readP_image (ds : List DefP) (l : List Int) (bs : List BlkP) (h : readP ds l = some bs) : imageP bs = some l := by
  unfold readP at h
  split at h
  · split at h
    · cases h
    · split at h
      · injection h with h
        rw [← h]
        assumption
      · cases h
  · cases h
end Go.Proofs.YtnnknnaimabehaaDoor
namespace Go.Proofs.YtnnknnaimabehaaDoor
open Go.RowKit
set_option linter.unusedVariables false
set_option maxRecDepth 100000
/-- The cells of definitions. -/
def DfC (W : World) (B : Nat) : List Value → List DefP → Prop
  | cs, [] => cs = []
  | cs, d :: ds => ∃ Ap np cp cs', cs = [.int .i64 d.id, .slice Ap np cp] ++ cs' ∧ PtI W B Ap np cp d.pts ∧ DfC W B cs' ds
theorem DfC.append {W : World} {B : Nat} {al : List DefP} : ∀ {cs ds : List Value} {bs : List DefP}, DfC W B cs al → DfC W B ds bs → DfC W B (cs ++ ds) (al ++ bs) := by
  induction al with
  | nil => intro cs ds bs h h2; subst h; exact h2
  | cons a al ih =>
    intro cs ds bs h h2
    obtain ⟨Ap, np, cp, cs', rfl, h3, h6⟩ := h
    exact ⟨Ap, np, cp, cs' ++ ds, by simp, h3, ih h6 h2⟩
theorem DfC.up {w w' : World} {al : List DefP} (hb : Below w.heap.size w w') : ∀ {cs : List Value}, DfC w w.heap.size cs al → DfC w' w'.heap.size cs al := by
  induction al with
  | nil => intro cs h; exact h
  | cons a al ih =>
    intro cs h
    obtain ⟨Ap, np, cp, cs', rfl, h3, h6⟩ := h
    exact ⟨Ap, np, cp, cs', rfl, h3.up hb, ih h6⟩
theorem DfC.len {W : World} {B : Nat} {al : List DefP} : ∀ {cs : List Value}, DfC W B cs al → cs.length = al.length * 2 := by
  induction al with
  | nil => intro cs h; subst h; rfl
  | cons a al ih =>
    intro cs h
    obtain ⟨Ap, np, cp, cs', rfl, h3, h6⟩ := h
    have := ih h6
    simp [this]
    omega
theorem DfC.at_ {W : World} {B : Nat} {al : List DefP} : ∀ {cs : List Value}, DfC W B cs al → ∀ (i : Nat) (b : DefP), al[i]? = some b → ∃ Ap np cp, cs[i * 2]? = some (.int .i64 b.id) ∧ cs[i * 2 + 1]? = some (.slice Ap np cp) ∧ PtI W B Ap np cp b.pts := by
  induction al with
  | nil => intro cs h i b hb; cases hb
  | cons a al ih =>
    intro cs h i b hb
    obtain ⟨Ap, np, cp, cs', rfl, h3, h6⟩ := h
    cases i with
    | zero =>
      obtain rfl : a = b := by simpa using hb
      exact ⟨Ap, np, cp, rfl, rfl, h3⟩
    | succ i =>
      obtain ⟨Ap', np', cp', k1, k2, k4⟩ := ih h6 i b (by simpa using hb)
      have e0 : (i + 1) * 2 = i * 2 + 1 + 1 := by omega
      have e1 : (i + 1) * 2 + 1 = i * 2 + 1 + 1 + 1 := by omega
      rw [e1, e0]
      refine ⟨Ap', np', cp', ?_, ?_, k4⟩
      · simpa using k1
      · simpa using k2
theorem DfI.of_cells {W : World} {B : Nat} {A : Option Addr} {n c : Nat} {bs : List DefP} {cs : List Value} (h : SlV W B A n c 2 cs) (hc : DfC W B cs bs) : DfI W B A n c bs := by
  have hl := hc.len
  have hl2 := h.1
  refine ⟨by omega, h.2.1, h.2.2.1, h.2.2.2.1, fun hn => ?_⟩
  obtain ⟨g, off, e, hg, hr⟩ := h.2.2.2.2 (by omega)
  refine ⟨g, off, e, hg, fun i b hb => ?_⟩
  obtain ⟨Ap, np, cp, k1, k2, k4⟩ := hc.at_ i b hb
  exact ⟨Ap, np, cp, hr _ _ k1, hr _ _ k2, k4⟩
/-- A row of definitions, read. -/
theorem DfI.of_row {w wx : World} {cs : List Value} {ds : List DefP} {A : Option Addr} {k c : Nat} (hb : Below w.heap.size w wx) (hc : DfC w w.heap.size cs ds) (h : wx.ownsRow w.heap.size 34 2 (.slice A k c) k cs) : DfI wx wx.heap.size A k c ds := by
  obtain ⟨A2, c2, e2, hs⟩ := SlV.of_own (by omega) h
  injection e2 with e1 e3 e4
  subst e1 e4
  exact DfI.of_cells hs (hc.up hb)
theorem BkI.of_row {w wx : World} {cs : List Value} {bs : List BlkP} {A : Option Addr} {k c : Nat} (hb : Below w.heap.size w wx) (hc : BkC w w.heap.size cs bs) (h : wx.ownsRow w.heap.size 37 3 (.slice A k c) k cs) : BkI wx wx.heap.size A k c bs := by
  obtain ⟨A2, c2, e2, hs⟩ := SlV.of_own (by omega) h
  injection e2 with e1 e3 e4
  subst e1 e4
  exact BkI.of_cells hs (hc.up hb)
theorem rows_apart {W : World} {b1 b2 s1 s2 k1 k2 : Nat} {T1 T2 : TypeId} {v1 v2 : Value} {xs ys : List Value} (h1 : W.ownsRow b1 T1 s1 v1 k1 xs) (h2 : W.ownsRow b2 T2 s2 v2 k2 ys) (hT : T1 ≠ T2) : v1.ownBlock = none ∨ v1.ownBlock ≠ v2.ownBlock := by
  rcases h1.2 with ⟨rfl, _⟩ | ⟨g, _, c1, rfl, _, h3, _⟩
  · exact Or.inl rfl
  · refine Or.inr fun h => ?_
    rcases h2.2 with ⟨rfl, _⟩ | ⟨g2, _, c2, rfl, _, h4, _⟩
    · simp [Value.ownBlock] at h
    · have h5 : g = g2 := by simpa [Value.ownBlock] using h
      rw [h5, h4] at h3
      injection h3 with h3
      injection h3 with _ h3
      exact hT h3.symm
theorem mayD_add (ds : List DefP) (d : DefP) (hm : mayD ds) (hb : defB d.id d.pts = true) (hi : idxP d.id ds = none) : mayD (ds ++ [d]) := by
  intro i e he
  rw [List.getElem?_append] at he
  split at he
  · rename_i hlt
    obtain ⟨h1, h2⟩ := hm i e he
    refine ⟨h1, fun k x hk hx => h2 k x hk ?_⟩
    rw [List.getElem?_append_left (by omega)] at hx
    exact hx
  · rename_i hlt
    obtain rfl : d = e := by
      have : i - ds.length = 0 := by
        rcases Nat.eq_zero_or_pos (i - ds.length) with h | h
        · exact h
        · rw [List.getElem?_eq_none (by simp; omega)] at he; cases he
      rw [this] at he
      simpa using he
    refine ⟨hb, fun k x hk hx => ?_⟩
    have hil : i = ds.length := by
      rcases Nat.eq_zero_or_pos (i - ds.length) with h | h
      · omega
      · rw [List.getElem?_eq_none (by simp; omega)] at he; cases he
    rw [List.getElem?_append_left (by omega)] at hx
    exact idxP_none d.id ds hi k x hx
theorem hasD_add (ds : List DefP) (d : DefP) (b : BlkP) (h : HasD ds b) : HasD (ds ++ [d]) b := by
  obtain ⟨h1, h2, i, e, h3, h4⟩ := h
  exact ⟨h1, h2, i, e, by rw [List.getElem?_append_left (List.getElem?_eq_some_iff.1 h3).1]; exact h3, h4⟩
/-- Do the definitions' points fit the block's? (none of its ID: they do.) -/
def sameD (ds : List DefP) (id : Int) (ps : List PtP) : Bool := match idxP id ds with
  | none => true
  | some i => decide ((ds.getD i ⟨0, []⟩).pts = ps)
theorem sameD_keep (ds : List DefP) (id : Int) (ps : List PtP) (q i : Nat) (h : idxP id (ds.take q) = some i) : sameD (ds.take (q + 1)) id ps = sameD (ds.take q) id ps := by
  unfold sameD
  obtain ⟨d, h1, h2, h3⟩ := idxP_some _ _ _ h
  rw [List.getElem?_take] at h1
  split at h1
  · rename_i hq
    have h4 : idxP id (ds.take (q + 1)) = some i := by
      refine idxP_at id _ i d (by rw [List.getElem?_take, if_pos (by omega)]; exact h1) h2 (fun k e hk he => ?_)
      rw [List.getElem?_take, if_pos (by omega)] at he
      exact h3 k e hk (by rw [List.getElem?_take, if_pos (by omega)]; exact he)
    rw [h, h4]
    dsimp only
    simp only [List.getD, List.getElem?_take]
    rw [if_pos hq, if_pos (by omega)]
  · cases h1
end Go.Proofs.YtnnknnaimabehaaDoor
