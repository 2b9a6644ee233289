/- entry.Check. -/
import Derived.Test.YtjcpgnachkhjaaaDoorLedEq
import Derived.Test.YtjcpgnachkhjaaaDoorLedFields
import Derived.Test.YtjcpgnachkhjaaaDoorScope
import Derived.Test.YtjcpgnachkhjaaaDoorLedNew
import Derived.Test.YtjcpgnachkhjaaaDoorWhole
import Derived.Test.YtjcpgnachkhjaaaDoorLedBook
namespace Go.Proofs.YtjcpgnachkhjaaaDoor
open Go.RowKit Go.Shelf
attribute [local go_sem] Oper.semAt_some
set_option linter.unusedVariables false
set_option linter.unusedSimpArgs false
set_option maxRecDepth 100000

theorem none_arr (k : Int) (X : Array Value) (h : X = (Ent.none k).arr) : X = #[.int .i64 k, .int .i64 0, .int .i64 0, .int .i64 0, .int .i64 0, .int .i64 0, .int .i64 0, .int .i64 0, .int .u32 0, .int .u64 0] ++ Array.replicate 32 (.int .u8 0) := by
  subst h
  simp [Ent.none, Ent.arr, Ent.cells]
theorem name_ne (k : Int) : (!(nameS k).toList.isEmpty) = decide (1 ≤ k ∧ k ≤ 5) := by
  by_cases h : 0 ≤ k ∧ k < 6
  · rcases (show k = 0 ∨ k = 1 ∨ k = 2 ∨ k = 3 ∨ k = 4 ∨ k = 5 by omega) with rfl | rfl | rfl | rfl | rfl | rfl <;> simp [nameS, wordS, ByteArray.toList_eq]
  · have e : nameS k = ⟨#[]⟩ := by unfold nameS; rw [if_neg h]
    rw [e]
    have : ¬ (1 ≤ k ∧ k ≤ 5) := by omega
    simp [this, ByteArray.toList_eq]
/-- The frame in a round. -/
def frameC (k : Int) (X Y : Array Value) (b : Bool) (g : Nat) (f : Int) : Act := { tmps := #[.agg X, .pointer (some ⟨g, 0, none⟩), .int .i64 0, .pointer (some ⟨g + 1, 0, none⟩), .pointer (some ⟨g + 2, 0, none⟩), .int .u8 f, undef, undef, undef, undef, .pointer (some ⟨g, 0, none⟩), .int .i64 k, .agg Y, .pointer (some ⟨g, 0, none⟩), .int .i64 k, .string (nameS k), .bool b, .pointer (some ⟨g, 0, none⟩), .int .i64 k, .func (.func 55) #[] #[.pointer (some ⟨g + 3, 0, none⟩)], .int .u8 f,
  undef, undef, undef, undef, undef, undef, undef, undef, undef, undef, undef, undef, undef, undef, undef, undef, undef, undef, undef, undef, undef, undef, undef, undef, undef, undef, undef, undef, undef, undef, undef, undef, undef, undef, undef, undef, undef], defers := [] }
/-- What stands at a round's head, and where the loop was left. -/
def ChkI (w : World) (x : Ent) (pre : List (Fin 10)) (W : World) : Prop :=
  Held W w.heap.size 28 x.arr ∧ Held W (w.heap.size + 1) 28 (foldE x (pre.map letN)).1.arr ∧ Held W (w.heap.size + 2) 4 #[.bool (foldE x (pre.map letN)).2] ∧ Below w.heap.size w W
def ChkX (w : World) (x : Ent) (c : Code) (pre : List (Fin 10)) (W : World) : Prop :=
  Held W w.heap.size 28 x.arr ∧ (∃ y : Ent, Held W (w.heap.size + 1) 28 y.arr ∧ y.hash.length = 32) ∧ Held W (w.heap.size + 2) 4 #[.bool false] ∧ Below w.heap.size w W ∧ c = .exit 0 ∧ (foldE x (pre.map letN)).2 = false
theorem ChkI.own {w : World} {x : Ent} (B : Nat) (hB : w.heap.size ≤ B) : OwnFrom B (ChkI w x) := by
  refine OwnFrom.and (fun p X Y row hs hg hr => held_ownFrom () X Y row hs hg hr) (OwnFrom.and (fun p X Y row hs hg hr => held_ownFrom () X Y row hs hg hr) (OwnFrom.and (fun p X Y row hs hg hr => held_ownFrom () X Y row hs hg hr) (ownFrom_below (Nat.le_refl _) hB)))
theorem ChkX.own {w : World} {x : Ent} (c : Code) (B : Nat) (hB : w.heap.size ≤ B) : OwnFrom B (ChkX w x c) := by
  refine OwnFrom.and (fun p X Y row hs hg hr => held_ownFrom () X Y row hs hg hr) (OwnFrom.and (fun p X Y row hs hg hr => ?_) (OwnFrom.and (fun p X Y row hs hg hr => held_ownFrom () X Y row hs hg hr) (OwnFrom.and (ownFrom_below (Nat.le_refl _) hB) (fun p X Y row hs hg hr => hs))))
  obtain ⟨y, hy, hl⟩ := hs
  exact ⟨y, held_ownFrom () X Y row hy hg hr, hl⟩
theorem step_len (x : Ent) (hx : x.hash.length = 32) (s : Ent × Bool) (f : Int) (h : s.1.hash.length = 32) : (stepE x s f).1.hash.length = 32 := by
  unfold stepE
  split
  · exact hx
  · unfold setE
    repeat' split
    all_goals exact h
theorem foldl_len (x : Ent) (hx : x.hash.length = 32) : ∀ (l : List Int) (s : Ent × Bool), s.1.hash.length = 32 → (l.foldl (stepE x) s).1.hash.length = 32
  | [], _, h => h
  | f :: l, s, h => foldl_len x hx l _ (step_len x hx s f h)
theorem fold_len (x : Ent) (hx : x.hash.length = 32) (l : List Int) : (foldE x l).1.hash.length = 32 := foldl_len x hx l _ rfl
theorem foldl_no (x : Ent) : ∀ (l : List Int) (s : Ent × Bool), s.2 = false → (l.foldl (stepE x) s).2 = false
  | [], _, h => h
  | f :: l, s, h => foldl_no x l _ (by unfold stepE; split <;> simp [h])
theorem fold_no (x : Ent) (l m : List Int) (h : (foldE x l).2 = false) : (foldE x (l ++ m)).2 = false := by
  unfold foldE at h ⊢
  rw [List.foldl_append]
  exact foldl_no x m _ h
theorem fold_snoc (x : Ent) (l : List Int) (f : Int) : foldE x (l ++ [f]) = stepE x (foldE x l) f := by
  unfold foldE
  rw [List.foldl_append]; rfl
theorem letN_in (z : Fin 10) (h : z ≠ 9) : letN z ∈ lettersN := by revert z; decide
theorem letN_ne (z : Fin 10) (h : z ≠ 9) : (letN z == 104) = false := by revert z; decide
theorem But.keeps {g B : Nat} {W W' : World} (h : But g W W') (hg : g < B) : KeepsFrom B W W' := ⟨h.size, fun k o hB hk _ => (h.2 k (by omega) (Array.getElem?_eq_some_iff.1 hk).1).trans hk⟩
theorem But.kx {g n : Nat} {W W' : World} (h : But g W W') (hg : g < n) (hn : n ≤ W.heap.size) : Kx g n W W' := ⟨h.below (Nat.le_refl _) (by omega), fun k h1 h2 => h.2 k h1 (by omega)⟩
theorem hash_range (e : Ent) : e.cells = [.int .i64 e.kind, .int .i64 e.meter, .int .i64 e.start, .int .i64 e.energy, .int .i64 e.band, .int .i64 e.price, .int .i64 e.cost, .int .i64 e.flags, .int .u32 e.count, .int .u64 e.seq] ++ (e.hash.map (Value.int .u8) ++ []) := by
  simp [Ent.cells]
theorem info_hash : (Tryd.prog.info? 26).map (·.size) = some 32 := by kernel_rfl
set_option maxHeartbeats 4000000 in
theorem check_yes (x : Ent) (hx : x.ok) (w : World) (hT : WordsT w) : CallsIn Fence.wide 6 Tryd.prog 36 #[.agg x.arr] w fun e w' => e = .returned (.int .i64 (if okE x then 0 else 150)) ∧ Below w.heap.size w w' := by
  have hD : Held (w.alloc (.cells x.arr 28)) w.heap.size 28 x.arr := Held.new w _ _
  obtain ⟨c0, c1, c2, c3, c4, c5, c6, c7, c8, c9⟩ := ent_cells hD
  have hlen := hx.2.2.2.2.2.2.2.2.2.2.1
  have HX := Lib.hid hx
  have HT := Lib.hid hT
  clear hx hT c1 c2 c3 c4 c5 c6 c7 c8 c9
  obtain ⟨X, hX⟩ : ∃ X, x.arr = X := ⟨_, rfl⟩
  rw [hX] at hD c0 ⊢
  refine callsIn_of_wp_marks Tryd.func36 rfl trivial ?_ rfl
  simp only [Tryd.ntmps36, List.size_toArray, List.length_cons, List.length_nil, Nat.reduceAdd, Nat.reduceSub, Array.replicate_succ, Array.replicate_zero, List.push_toArray, List.append_toArray, List.nil_append, List.cons_append]
  gi_wp2
  refine wpIn_scope ?_
  refine wpIn_wide.2 ?_
  refine wp_seq ?_
  refine wp_region_lit ?_
  refine wpList_plain rfl fun K hK => ?_
  go_simp
  refine hK _ _ ?_
  refine wpList_plain rfl fun K2 hK2 => ?_
  go_simp
  refine hK2 _ _ ?_
  clear hK hK2
  refine wpList_plain rfl fun K hK => ?_
  refine wp_build_of _ _ rfl #[(0, .int .i64 x.kind)] (by simp [Act.eval, Act.put]) _ (build_new _ x.kind) ?_
  refine hK _ _ ?_
  clear hK
  refine wpList_plain rfl fun K hK => ?_
  refine wp_alloc_of _ rfl _ (alloc_new _) ?_
  refine hK _ _ ?_
  clear hK
  refine wpList_plain rfl fun K hK => ?_
  refine wp_store_of _ _ _ rfl _ _ rfl rfl (store_new _ (Ent.none x.kind) rfl) ?_
  refine hK _ _ ?_
  refine wpList_nil ?_
  clear hK
  obtain ⟨Y, hYe⟩ : ∃ Y, (Ent.none x.kind).arr = Y := ⟨_, rfl⟩
  obtain ⟨w1, hw1⟩ : ∃ W, (w.alloc (.cells X 28)).alloc (.cells Y 28) = W := ⟨_, rfl⟩
  have hX1 : Held w1 w.heap.size 28 X := by rw [← hw1]; exact hD.alloc _
  have hY1 : Held w1 (w.heap.size + 1) 28 Y := by rw [← hw1]; have := Held.new (w.alloc (.cells X 28)) 28 Y; rw [World.size_alloc] at this; exact this
  have hb1 : Below w.heap.size w w1 := by rw [← hw1]; exact ((Below.refl _ _).alloc (Nat.le_refl _) _).alloc (by simp) _
  have hz1 : w1.heap.size = w.heap.size + 2 := by rw [← hw1]; simp
  have d0 : w1.cell? ⟨w.heap.size, 0, none⟩ = some (.int .i64 x.kind) := by rw [← hw1]; exact (Held.alloc hD _).cell 0 |>.trans ((hD.cell 0).symm.trans c0)
  have HY := Lib.hid hYe
  have HXE := Lib.hid hX
  have HN := Lib.hid (name_own x.kind w1 (HT.out.up hb1))
  rw [hYe, hw1]
  simp only [World.size_alloc, Act.put]
  clear hw1 hD c0 hX hYe
  have HZ := Lib.hid hz1
  clear hz1
  go_wp2_with (go_at_call 44; (with_reducible refine HN.out.mono ?_); rintro e w' ⟨rfl, rfl⟩)
  rw [name_ne]
  obtain ⟨bk, hbk⟩ : ∃ b, decide (1 ≤ x.kind ∧ x.kind ≤ 5) = b := ⟨_, rfl⟩
  rw [hbk]
  obtain ⟨w2, hw2⟩ : ∃ W, w'.alloc (.cells #[.bool bk] 4) = W := ⟨_, rfl⟩
  have hX2 : Held w2 w.heap.size 28 X := by rw [← hw2]; exact hX1.alloc _
  have hY2 : Held w2 (w.heap.size + 1) 28 Y := by rw [← hw2]; exact hY1.alloc _
  have hF2 : Held w2 (w.heap.size + 2) 4 #[.bool bk] := by rw [← hw2, ← HZ.out]; exact Held.new _ _ _
  have hb2 : Below w.heap.size w w2 := by rw [← hw2]; exact hb1.alloc hb1.size _
  have hz2 : w2.heap.size = w.heap.size + 3 := by rw [← hw2, World.size_alloc, HZ.out]
  have e0 : w2.cell? ⟨w.heap.size, 0, none⟩ = some (.int .i64 x.kind) := by rw [← hw2]; exact ((hX1.alloc _).cell 0).trans ((hX1.cell 0).symm.trans d0)
  have HZ0 := HZ
  rw [hw2, HZ.out]
  clear hw2 hX1 hY1 hb1 d0 HN HZ HZ0
  have HZ := Lib.hid hz2
  clear hz2
  refine (wpIn_wide (n := 6)).1 ?_
  refine wpIn_label ?_
  go_wp2_with (go_at_call 45; refine ((callsIn_wide (n := 5)).1 (fields_in x.kind _)).mono ?_; rintro e w' ⟨rfl, rfl⟩)
  rw [HZ.out]
  obtain ⟨w3, hw3⟩ : ∃ W, w2.alloc (.cells #[.int .i64 x.kind] 3) = W := ⟨_, rfl⟩
  have hX3 : Held w3 w.heap.size 28 X := by rw [← hw3]; exact hX2.alloc _
  have hY3 : Held w3 (w.heap.size + 1) 28 Y := by rw [← hw3]; exact hY2.alloc _
  have hF3 : Held w3 (w.heap.size + 2) 4 #[.bool bk] := by rw [← hw3]; exact hF2.alloc _
  have hK3 : Held w3 (w.heap.size + 3) 3 #[.int .i64 x.kind] := by rw [← hw3, ← HZ.out]; exact Held.new _ _ _
  have hb3 : Below w.heap.size w w3 := by rw [← hw3]; exact hb2.alloc hb2.size _
  have hz3 : w3.heap.size = w.heap.size + 4 := by rw [← hw3, World.size_alloc, HZ.out]
  rw [hw3]
  clear hw3 hX2 hY2 hF2 hb2 e0 HZ
  have HZ := Lib.hid hz3
  have HI : Hid (ChkI w x [] w3) := Lib.hid ⟨by rw [HXE.out]; exact hX3, by rw [List.map_nil]; show Held _ _ _ (Ent.none x.kind).arr; rw [HY.out]; exact hY3, by rw [List.map_nil]; show Held _ _ _ #[.bool (decide _)]; rw [hbk]; exact hF3, hb3⟩
  clear hX3 hY3 hF3
  refine wpIn_wide.1 (wpIn_rangeFunc_ownH (n := 6) rfl (by omega) (gf := 55) (lb := #[.pointer (some ⟨w.heap.size + 3, 0, none⟩)]) rfl trivial (enters_of Tryd.func55 (by kernel_rfl) rfl)
    (fields_stops x.kind (w.heap.size + 3) (w.heap.size + 1) (w.heap.size + 4) w3 (by omega) (hK3.cell 0)) Kx.trans (fun W l o o' hl ho h1 h2 => Kx.of_below (belowK_b (w := w3) (by omega) W l o o' hl ho h1 h2) (by omega)) (Below.refl _ _) (fun _ => rfl)
    (ChkI w x) (ChkX w x) ?own ?ownx HI.out (fun z a' _ => a' = frameC x.kind X Y bk w.heap.size (letN z)) (fun _ _ _ X Y row hs _ _ => hs) ?assign ?body ?done ?stop)
  case own => exact ChkI.own _ (by omega)
  case ownx => exact fun c => ChkX.own c _ (by omega)
  case assign =>
    rintro l pre z W K hI hK
    unfold letV
    gi_wp2
    exact hK _ _ ((KeepsOthers.refl _).from _) (Kx.refl _ _ _) hI rfl
  case body =>
    rintro l pre z a' W hl ⟨r, hr⟩ ⟨hx, hy, hf, hB⟩ rfl hlt
    have hlW : l < W.heap.size := (Array.getElem?_eq_some_iff.1 hr).1
    unfold frameC
    have hst : foldE x ((pre ++ [z]).map letN) = stepE x (foldE x (pre.map letN)) (letN z) := by rw [List.map_append]; exact fold_snoc _ _ _
    have hyl := fold_len x hlen (pre.map letN)
    obtain ⟨⟨y, b⟩, hyb⟩ : ∃ s, foldE x (pre.map letN) = s := ⟨_, rfl⟩
    rw [hyb] at hst hyl hy hf
    dsimp only at hyl hy hf
    have hzw : w3.heap.size = w.heap.size + 4 := HZ.out
    by_cases hz : z = 9
    · subst hz
      have hl9 : letN 9 = 104 := rfl
      rw [hl9] at hst ⊢
      have hs9 : stepE x (y, b) 104 = ({ y with hash := x.hash }, b) := rfl
      rw [hs9] at hst
      have HST := Lib.hid hst
      have hx' := hx
      have hy' := hy
      unfold Ent.arr at hx' hy'
      rw [hash_range] at hx' hy'
      have rx := held_range hx'
      have ht := held_there (o := 10) (n := 32) hy (by rw [Ent.arr_size y hyl]; exact Nat.le_refl _)
      have hs := held_setCells (x.hash.map (Value.int .u8)) (y.hash.map (Value.int .u8)) [.int .i64 y.kind, .int .i64 y.meter, .int .i64 y.start, .int .i64 y.energy, .int .i64 y.band, .int .i64 y.price, .int .i64 y.cost, .int .i64 y.flags, .int .u32 y.count, .int .u64 y.seq] [] (by simp [hyl, hlen]) hy'
      have e2 : [.int .i64 y.kind, .int .i64 y.meter, .int .i64 y.start, .int .i64 y.energy, .int .i64 y.band, .int .i64 y.price, .int .i64 y.cost, .int .i64 y.flags, .int .u32 y.count, .int .u64 y.seq] ++ (x.hash.map (Value.int .u8) ++ []) = ({ y with hash := x.hash } : Ent).cells := (hash_range { y with hash := x.hash }).symm
      rw [e2] at hs
      change W.rangeAt w.heap.size 10 _ at rx
      change Held (W.setCells (w.heap.size + 1) 10 _) _ _ _ at hs
      have hb2 : But (w.heap.size + 1) W (W.setCells (w.heap.size + 1) 10 (x.hash.map (Value.int .u8))) := But.sets _ _ (But.refl _ _)
      have hBs := below_setCells (x.hash.map (Value.int .u8)) 10 hB (show w.heap.size ≤ w.heap.size + 1 by omega)
      obtain ⟨LH, hLH⟩ : ∃ L, x.hash.map (Value.int .u8) = L := ⟨_, rfl⟩
      have hLl : LH.length = 32 := by rw [← hLH]; simp [hlen]
      have h1c : LH.toArray.all (·.oneCell') = true := by rw [← hLH]; simp [Value.oneCell']
      rw [hLH] at rx hs hb2 hBs
      have RX := Lib.hid rx
      have HT2 := Lib.hid (show W.there (w.heap.size + 1) 10 LH.toArray.size by simpa [hLl] using ht)
      have HI2 := Lib.hid (show (Tryd.prog.info? 26).map (·.size) = some LH.toArray.size by rw [info_hash]; simp [hLl])
      have HI1 := Lib.hid (show (Tryd.prog.info? 26).map (·.size) = some LH.length by rw [info_hash, hLl])
      have H1 := Lib.hid h1c
      have FX := Lib.hid (show Held (W.setCells (w.heap.size + 1) 10 LH) w.heap.size 28 x.arr from hb2.held (by omega) hx)
      have FF := Lib.hid (show Held (W.setCells (w.heap.size + 1) 10 LH) (w.heap.size + 2) 4 #[.bool b] from hb2.held (by omega) hf)
      have FY := Lib.hid hs
      have HK := Lib.hid (hb2.keeps (B := w3.heap.size) (by omega))
      have HKx := Lib.hid (hb2.kx (n := w.heap.size + 4) (by omega) (by omega))
      have HBs := Lib.hid hBs
      clear hyb hl9 hs9 hst hx' hy' rx ht hs e2 hb2 hBs hLH h1c hLl hx hy hf
      gi_wp2_with (first
        | (with_reducible refine wpListIn_load_at (dst := some 24) 26 (.tmp 23) w.heap.size 10 LH _ (by kernel_rfl) (by kernel_rfl) RX.out Tryd.underlying26 (by kernel_rfl) HI1.out ?_; simp only [Act.put, List.setIfInBounds_toArray, List.set_cons_succ, List.set_cons_zero])
        | (with_reducible refine wpListIn_store_at 26 (.tmp 25) (.tmp 24) (w.heap.size + 1) 10 LH.toArray (by kernel_rfl) (by kernel_rfl) (by kernel_rfl) HT2.out HI2.out H1.out ?_; simp only [Act.put, List.setIfInBounds_toArray, List.set_cons_succ, List.set_cons_zero]))
      refine ⟨HK.out, HKx.out, FX.out, ?_, ?_, HBs.out⟩
      · rw [HST.out]; exact FY.out
      · rw [HST.out]; exact FF.out
    · have hfl := letN_in z hz
      have hfn := letN_ne z hz
      obtain ⟨f, hfe⟩ : ∃ f, letN z = f := ⟨_, rfl⟩
      rw [hfe] at hst hfl hfn ⊢
      have hne : f ≠ 104 := by rintro rfl; simp at hfn
      have hs2 : stepE x (y, b) f = (setE y f (getE x f), b && fitE x f) := by unfold stepE; rw [if_neg hne]
      rw [hs2] at hst
      have hsl : (setE y f (getE x f)).hash.length = 32 := by have := step_len x hlen (y, b) f hyl; rw [hs2] at this; exact this
      obtain ⟨n, hn⟩ : ∃ n, getE x f = n := ⟨_, rfl⟩
      obtain ⟨lo, hlo⟩ : ∃ k, (boundE x.kind f).1 = k := ⟨_, rfl⟩
      obtain ⟨hi, hhi⟩ : ∃ k, (boundE x.kind f).2.1 = k := ⟨_, rfl⟩
      obtain ⟨is, his⟩ : ∃ k, (boundE x.kind f).2.2 = k := ⟨_, rfl⟩
      have hfit : fitE x f = (!is || (decide (lo ≤ n) && decide (n ≤ hi))) := by unfold fitE; rw [hlo, hhi, his, hn]
      rw [hfit, hn] at hst
      rw [hn] at hsl
      have hg := get_own x HX.out f hfl W
      rw [hn] at hg
      have HB2 := Lib.hid (fun V => by have := bounds_own x.kind f hfl V; rw [hlo, hhi, his] at this; exact this)
      have HG : Hid (Calls Tryd.prog 46 #[.agg x.cells.toArray, .int .u8 f] W fun e w' => e = .returned (.int .i64 n) ∧ Below W.heap.size W w') := Lib.hid (hg.mono fun e w' h => ⟨h.1, by rw [h.2]; exact (Below.refl _ _).alloc (Nat.le_refl _) _⟩)
      have hBW := hB.size
      have hsz := hf.lt
      have HS : Hid (∀ V, Below W.heap.size W V → Calls Tryd.prog 47 #[.pointer (some ⟨w.heap.size + 1, 0, none⟩), .int .u8 f, .int .i64 n] V fun e w' => (∃ v, e = .returned v) ∧ But (w.heap.size + 1) W w' ∧ Held w' (w.heap.size + 1) 28 (setE y f n).arr ∧ w'.cell? ⟨w.heap.size, 0, none⟩ = some (.int .i64 x.kind)) :=
        Lib.hid (fun V hV => (set_own y f n hfl V (w.heap.size + 1) _ (hy.below hV hy.lt)).mono fun e w' h => by
          obtain ⟨h1, h2, h3⟩ := h
          have hbt : But (w.heap.size + 1) W w' := by rw [h2]; exact (But.of_below hV).set _ _
          have := ((hbt.held (show w.heap.size ≠ w.heap.size + 1 by omega) hx).cell 0)
          refine ⟨h1, hbt, h3, this.trans ?_⟩
          simp [Ent.arr, Ent.cells])
      have hx2 := Lib.hid hx
      have hf2 := Lib.hid hf
      have RX := Lib.hid (ent_range hx)
      have IX : Hid ((Tryd.prog.info? 28).map (·.size) = some x.cells.length) := Lib.hid (by rw [ent_size x hlen]; simp [Ent.arr])
      obtain ⟨LX, hLX⟩ : ∃ L, x.cells = L := ⟨_, rfl⟩
      rw [hLX] at RX IX HG
      have HST := Lib.hid hst
      have HSL := Lib.hid hsl
      have hszW : w3.heap.size ≤ W.heap.size := by omega
      have k1F : Fence.wide.fn 46 := trivial
      have k2F : Fence.wide.fn 47 := trivial
      have k3F : Fence.wide.fn 48 := trivial
      clear hyb hs2 hn hlo hhi his hfit hst hsl hg hLX hx hy hf hfe hne hfl HI HY hbk
      cases is
      · gi_wp2_with (first
        | (with_reducible refine wpListIn_load_at (dst := some 26) 28 (.tmp 1) w.heap.size 0 LX _ (by kernel_rfl) (by kernel_rfl) RX.out Tryd.underlying28 (by kernel_rfl) IX.out ?_; simp only [Act.put, List.setIfInBounds_toArray, List.set_cons_succ, List.set_cons_zero])
        | (gi_at_call 46; refine (CallsIn.inRound l (callsIn_wide.2 HG.out)).mono ?_; rintro e v1 ⟨rfl, hb1⟩; have HS1 := Lib.hid (HS.out v1 hb1); clear hb1)
        | (gi_at_call 47; refine (CallsIn.inRound l (callsIn_wide.2 HS1.out)).mono ?_; rintro e v2 ⟨⟨u, rfl⟩, hbt, hy2, hk2⟩; have HBT := Lib.hid hbt; have HY2 := Lib.hid hy2; have HF2 := Lib.hid (hbt.held (by omega) hf2.out); have fz2 := (hbt.held (show w.heap.size + 2 ≠ w.heap.size + 1 by omega) hf2.out).frozen 0; have fc2 : v2.cell? ⟨w.heap.size + 2, 0, none⟩ = some (.bool b) := (hbt.held (show w.heap.size + 2 ≠ w.heap.size + 1 by omega) hf2.out).cell 0; have HX2 := Lib.hid (hbt.held (show w.heap.size ≠ w.heap.size + 1 by omega) hx2.out); clear hbt hy2)
        | (gi_at_call 48; refine (CallsIn.inRound l (callsIn_wide.2 (HB2.out _))).mono ?_; rintro e v3 ⟨rfl, rfl⟩))
        refine ⟨HBT.out.keeps (by omega), HBT.out.kx (by omega) (by omega), HX2.out, ?_, ?_, hB.trans (HBT.out.below (by omega) (by omega))⟩
        · rw [HST.out]; exact HY2.out
        · rw [HST.out]; simpa using HF2.out
      · by_cases h1 : n < lo
        · gi_wp2_with (first
          | (with_reducible refine wpListIn_load_at (dst := some 26) 28 (.tmp 1) w.heap.size 0 LX _ (by kernel_rfl) (by kernel_rfl) RX.out Tryd.underlying28 (by kernel_rfl) IX.out ?_; simp only [Act.put, List.setIfInBounds_toArray, List.set_cons_succ, List.set_cons_zero])
          | (gi_at_call 46; refine (CallsIn.inRound l (callsIn_wide.2 HG.out)).mono ?_; rintro e v1 ⟨rfl, hb1⟩; have HS1 := Lib.hid (HS.out v1 hb1); clear hb1)
          | (gi_at_call 47; refine (CallsIn.inRound l (callsIn_wide.2 HS1.out)).mono ?_; rintro e v2 ⟨⟨u, rfl⟩, hbt, hy2, hk2⟩; have HBT := Lib.hid hbt; have HY2 := Lib.hid hy2; have HF2 := Lib.hid (hbt.held (by omega) hf2.out); have fz2 := (hbt.held (show w.heap.size + 2 ≠ w.heap.size + 1 by omega) hf2.out).frozen 0; have fc2 : v2.cell? ⟨w.heap.size + 2, 0, none⟩ = some (.bool b) := (hbt.held (show w.heap.size + 2 ≠ w.heap.size + 1 by omega) hf2.out).cell 0; have HX2 := Lib.hid (hbt.held (show w.heap.size ≠ w.heap.size + 1 by omega) hx2.out); clear hbt hy2)
          | (gi_at_call 48; refine (CallsIn.inRound l (callsIn_wide.2 (HB2.out _))).mono ?_; rintro e v3 ⟨rfl, rfl⟩))
          all_goals
            refine ⟨(HBT.out.keeps (by omega)).trans ((KeepsOthers.setCell _ _ _).from _), HX2.out.far (p := ⟨w.heap.size + 2, 0, none⟩) (by show w.heap.size ≠ w.heap.size + 2; omega) _, ⟨_, HY2.out.far (p := ⟨w.heap.size + 2, 0, none⟩) (by show w.heap.size + 1 ≠ w.heap.size + 2; omega) _, HSL.out⟩, HF2.out.set 0 _, (hB.trans (HBT.out.below (by omega) (by omega))).setCell (p := ⟨w.heap.size + 2, 0, none⟩) (by show w.heap.size ≤ w.heap.size + 2; omega) _, rfl, ?_⟩
            rw [HST.out]
            have hd : decide (lo ≤ n) = false := by simp; omega
            simp [hd]
        · by_cases h2 : hi < n
          · have h3 : lo ≤ n := by omega
            clear h1
            gi_wp2_with (first
            | (with_reducible refine wpListIn_load_at (dst := some 26) 28 (.tmp 1) w.heap.size 0 LX _ (by kernel_rfl) (by kernel_rfl) RX.out Tryd.underlying28 (by kernel_rfl) IX.out ?_; simp only [Act.put, List.setIfInBounds_toArray, List.set_cons_succ, List.set_cons_zero])
            | (gi_at_call 46; refine (CallsIn.inRound l (callsIn_wide.2 HG.out)).mono ?_; rintro e v1 ⟨rfl, hb1⟩; have HS1 := Lib.hid (HS.out v1 hb1); clear hb1)
            | (gi_at_call 47; refine (CallsIn.inRound l (callsIn_wide.2 HS1.out)).mono ?_; rintro e v2 ⟨⟨u, rfl⟩, hbt, hy2, hk2⟩; have HBT := Lib.hid hbt; have HY2 := Lib.hid hy2; have HF2 := Lib.hid (hbt.held (by omega) hf2.out); have fz2 := (hbt.held (show w.heap.size + 2 ≠ w.heap.size + 1 by omega) hf2.out).frozen 0; have fc2 : v2.cell? ⟨w.heap.size + 2, 0, none⟩ = some (.bool b) := (hbt.held (show w.heap.size + 2 ≠ w.heap.size + 1 by omega) hf2.out).cell 0; have HX2 := Lib.hid (hbt.held (show w.heap.size ≠ w.heap.size + 1 by omega) hx2.out); clear hbt hy2)
            | (gi_at_call 48; refine (CallsIn.inRound l (callsIn_wide.2 (HB2.out _))).mono ?_; rintro e v3 ⟨rfl, rfl⟩))
            all_goals
              refine ⟨(HBT.out.keeps (by omega)).trans ((KeepsOthers.setCell _ _ _).from _), HX2.out.far (p := ⟨w.heap.size + 2, 0, none⟩) (by show w.heap.size ≠ w.heap.size + 2; omega) _, ⟨_, HY2.out.far (p := ⟨w.heap.size + 2, 0, none⟩) (by show w.heap.size + 1 ≠ w.heap.size + 2; omega) _, HSL.out⟩, HF2.out.set 0 _, (hB.trans (HBT.out.below (by omega) (by omega))).setCell (p := ⟨w.heap.size + 2, 0, none⟩) (by show w.heap.size ≤ w.heap.size + 2; omega) _, rfl, ?_⟩
              rw [HST.out]
              have hd : decide (n ≤ hi) = false := by simp; omega
              simp [hd]
          · have h3 : lo ≤ n := by omega
            have h4 : n ≤ hi := by omega
            clear h1 h2
            gi_wp2_with (first
            | (with_reducible refine wpListIn_load_at (dst := some 26) 28 (.tmp 1) w.heap.size 0 LX _ (by kernel_rfl) (by kernel_rfl) RX.out Tryd.underlying28 (by kernel_rfl) IX.out ?_; simp only [Act.put, List.setIfInBounds_toArray, List.set_cons_succ, List.set_cons_zero])
            | (gi_at_call 46; refine (CallsIn.inRound l (callsIn_wide.2 HG.out)).mono ?_; rintro e v1 ⟨rfl, hb1⟩; have HS1 := Lib.hid (HS.out v1 hb1); clear hb1)
            | (gi_at_call 47; refine (CallsIn.inRound l (callsIn_wide.2 HS1.out)).mono ?_; rintro e v2 ⟨⟨u, rfl⟩, hbt, hy2, hk2⟩; have HBT := Lib.hid hbt; have HY2 := Lib.hid hy2; have HF2 := Lib.hid (hbt.held (by omega) hf2.out); have fz2 := (hbt.held (show w.heap.size + 2 ≠ w.heap.size + 1 by omega) hf2.out).frozen 0; have fc2 : v2.cell? ⟨w.heap.size + 2, 0, none⟩ = some (.bool b) := (hbt.held (show w.heap.size + 2 ≠ w.heap.size + 1 by omega) hf2.out).cell 0; have HX2 := Lib.hid (hbt.held (show w.heap.size ≠ w.heap.size + 1 by omega) hx2.out); clear hbt hy2)
            | (gi_at_call 48; refine (CallsIn.inRound l (callsIn_wide.2 (HB2.out _))).mono ?_; rintro e v3 ⟨rfl, rfl⟩))
            all_goals
              refine ⟨HBT.out.keeps (by omega), HBT.out.kx (by omega) (by omega), HX2.out, ?_, ?_, hB.trans (HBT.out.below (by omega) (by omega))⟩
              · rw [HST.out]; exact HY2.out
              · rw [HST.out]
                have hd : (decide (lo ≤ n) && decide (n ≤ hi)) = true := by simp [h3, h4]
                rw [hd]
                simpa using HF2.out
  case done =>
    rintro D ys W hD rfl ⟨hx, hy, hf, hB⟩ hK
    rw [fieldI_L] at hy hf
    have hyl : (foldE x (fieldL x.kind)).1.hash.length = 32 := fold_len x hlen _
    have f0 : W.cell? ⟨w.heap.size + 2, 0, none⟩ = some (.bool (foldE x (fieldL x.kind)).2) := hf.cell 0
    have rx := ent_range hx
    have ry := ent_range hy
    have ix : (Tryd.prog.info? 28).map (·.size) = some x.cells.length := by rw [ent_size x hlen]; simp [Ent.arr]
    have iy : (Tryd.prog.info? 28).map (·.size) = some (foldE x (fieldL x.kind)).1.cells.length := by rw [ent_size _ hyl]; simp [Ent.arr]
    have lq : (binOp .neq 28 (.agg x.cells.toArray) (.agg (foldE x (fieldL x.kind)).1.cells.toArray)).run Tryd.prog W = .ok (.bool (!decide (x = (foldE x (fieldL x.kind)).1))) W := by
      have := ent_in W 9997 x _ hlen hyl
      unfold Ent.arr at this
      rw [run_neq_struct, this]; rfl
    have HO := Lib.hid (show okE x = ((foldE x (fieldL x.kind)).2 && decide (x = (foldE x (fieldL x.kind)).1)) from rfl)
    obtain ⟨b2, hb2⟩ : ∃ b, (foldE x (fieldL x.kind)).2 = b := ⟨_, rfl⟩
    obtain ⟨b3, hb3e⟩ : ∃ b, decide (x = (foldE x (fieldL x.kind)).1) = b := ⟨_, rfl⟩
    rw [hb2] at f0
    rw [hb3e] at lq
    rw [hb2, hb3e] at HO
    obtain ⟨LX, hLX⟩ : ∃ L, x.cells = L := ⟨_, rfl⟩
    obtain ⟨LY, hLY⟩ : ∃ L, (foldE x (fieldL x.kind)).1.cells = L := ⟨_, rfl⟩
    rw [hLX] at rx ix lq
    rw [hLY] at ry iy lq
    have RX := Lib.hid rx
    have RY := Lib.hid ry
    have IX := Lib.hid ix
    have IY := Lib.hid iy
    have lg2 := fun a b => ent_guard W .neq a b LX.toArray LY.toArray
    have HE := Lib.hid ((ChkI.own (w := w) (x := x) w3.heap.size (by omega)).putObj (W := W) (.deferred none) ⟨hx, by rw [fieldI_L]; exact hy, by rw [fieldI_L]; exact hf, hB⟩ hD hK rfl).2.2.2
    clear hx hy hf hLX hLY hb2 hb3e hyl hbk HI HY rx ry ix iy
    cases b2
    · dsimp only
      go_wp2
      refine ⟨by simp, .inl ⟨_, _, rfl, run_takeDeferred (w := W) hK, ?_⟩⟩
      exact ⟨_, results_tmp rfl _ _ _, by rw [HO.out]; rfl, HE.out⟩
    · cases b3
      all_goals
        dsimp only
        go_wp2_with (first
          | (with_reducible refine wpList_load_at (dst := some 54) 28 (.tmp 1) w.heap.size 0 LX _ (by kernel_rfl) (by kernel_rfl) RX.out Tryd.underlying28 (by kernel_rfl) IX.out ?_; simp only [Act.put, List.setIfInBounds_toArray, List.set_cons_succ, List.set_cons_zero])
          | (with_reducible refine wpList_load_at (dst := some 55) 28 (.tmp 3) (w.heap.size + 1) 0 LY _ (by kernel_rfl) (by kernel_rfl) RY.out Tryd.underlying28 (by kernel_rfl) IY.out ?_; simp only [Act.put, List.setIfInBounds_toArray, List.set_cons_succ, List.set_cons_zero])
          | (with_reducible refine wpList_bin_at (dst := some 56) .neq 28 28 (.tmp 54) (.tmp 55) (.agg LX.toArray) (.agg LY.toArray) _ (by kernel_rfl) (by kernel_rfl) (by kernel_rfl) (lg2 _ _) lq ?_; simp only [Act.put, List.setIfInBounds_toArray, List.set_cons_succ, List.set_cons_zero]))
        refine ⟨by simp, .inl ⟨_, _, rfl, run_takeDeferred (w := W) hK, ?_⟩⟩
        exact ⟨_, results_tmp rfl _ _ _, by rw [HO.out]; rfl, HE.out⟩
  case stop =>
    rintro D c pre W hD hp ⟨hx, ⟨y, hy, hyl⟩, hf, hB, rfl, hbad⟩ hK
    have hno : okE x = false := by
      obtain ⟨m, hm⟩ := hp
      have := fold_no x (pre.map letN) (m.map letN) hbad
      rw [← List.map_append, hm, fieldI_L] at this
      unfold okE
      rw [this]; rfl
    have f0 : W.cell? ⟨w.heap.size + 2, 0, none⟩ = some (.bool false) := hf.cell 0
    have HO := Lib.hid hno
    have HE := Lib.hid ((ChkX.own (w := w) (x := x) (.exit 0) w3.heap.size (by omega)).putObj (W := W) (.deferred none) ⟨hx, ⟨y, hy, hyl⟩, hf, hB, rfl, hbad⟩ hD hK rfl).2.2.2.1
    clear hx hy hf hbad hp hno hbk HI HY
    dsimp only
    refine wpIn_wide.2 ?_
    go_wp2
    refine ⟨by simp, .inl ⟨_, _, rfl, run_takeDeferred (w := W) hK, ?_⟩⟩
    exact ⟨_, results_tmp rfl _ _ _, by rw [HO.out]; rfl, HE.out⟩
end Go.Proofs.YtjcpgnachkhjaaaDoor
