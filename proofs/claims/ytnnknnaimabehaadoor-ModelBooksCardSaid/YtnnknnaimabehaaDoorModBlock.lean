/- model.block: the block whose points' words begin a list. -/
import Derived.Test.YtnnknnaimabehaaDoorModClone
import Derived.Test.YtnnknnaimabehaaDoorKeep
import Derived.Deep.AppendLies
import Derived.Laws.CopyOwn
namespace Go.Proofs.YtnnknnaimabehaaDoor
open Go.RowKit
set_option linter.unusedVariables false
set_option maxRecDepth 100000
theorem infoVal : (Tryd.prog.info? 46).map (fun i => (i.zero, i.size, i.bytes)) = some (some (.agg #[.int .u64 0, .int .i64 0, .string ⟨#[]⟩]), 3, 32) := by kernel_rfl
theorem PtI.lt {W : World} {B : Nat} {A : Option Addr} {n c : Nat} {ps : List PtP} (h : PtI W B A n c ps) (h0 : 0 < n) : ∀ a, A = some a → a.block < B := fun a e => by
  obtain ⟨g, off, e2, hg, _⟩ := h.2.2.2.2 h0
  rw [e] at e2
  injection e2 with e2
  rw [e2]
  exact hg
theorem PtI.kept {W W' : World} {B B' : Nat} {A : Option Addr} {n c : Nat} {ps : List PtP} (h : PtI W B A n c ps) (hB : B ≤ B') (hk : ∀ a, A = some a → W'.heap[a.block]? = W.heap[a.block]?) : PtI W' B' A n c ps := by
  obtain ⟨h1, h2, h3, h4, h5⟩ := h
  refine ⟨h1, h2, h3, h4, fun hn => ?_⟩
  obtain ⟨g, off, e, hg, hc⟩ := h5 hn
  refine ⟨g, off, e, Nat.lt_of_lt_of_le hg hB, fun i p hp => ?_⟩
  obtain ⟨c0, c1⟩ := hc i p hp
  have hb := hk _ e
  exact ⟨(World.cell?_of_block (a := ⟨g, off + i * 2, none⟩) hb).trans c0, (World.cell?_of_block (a := ⟨g, off + i * 2 + 1, none⟩) hb).trans c1⟩
theorem VlI.kept {W W' : World} {B B' : Nat} {A : Option Addr} {n c : Nat} {vs : List ValP} (h : VlI W B A n c vs) (hB : B ≤ B') (hk : ∀ a, A = some a → W'.heap[a.block]? = W.heap[a.block]?) : VlI W' B' A n c vs := by
  obtain ⟨h1, h2, h3, h4, h5⟩ := h
  refine ⟨h1, h2, h3, h4, fun hn => ?_⟩
  obtain ⟨g, off, e, hg, hc⟩ := h5 hn
  refine ⟨g, off, e, Nat.lt_of_lt_of_le hg hB, fun i p hp => ?_⟩
  obtain ⟨c0, c1, c2⟩ := hc i p hp
  have hb := hk _ e
  exact ⟨(World.cell?_of_block (a := ⟨g, off + i * 3, none⟩) hb).trans c0, (World.cell?_of_block (a := ⟨g, off + i * 3 + 1, none⟩) hb).trans c1, (World.cell?_of_block (a := ⟨g, off + i * 3 + 2, none⟩) hb).trans c2⟩
theorem set3_other {W : World} {B k : Nat} {a' b' c' : Value} (h : k ≠ B) : (((W.setCell ⟨B, 0, none⟩ a').setCell ⟨B, 1, none⟩ b').setCell ⟨B, 2, none⟩ c').heap[k]? = W.heap[k]? :=
  ((Below.heap_setCell _ ⟨B, 2, none⟩ c' k h).trans (Below.heap_setCell _ ⟨B, 1, none⟩ b' k h)).trans (Below.heap_setCell _ ⟨B, 0, none⟩ a' k h)
theorem SlI.addr {w : World} {B : Nat} {k : IntKind} {a : Addr} {n c : Nat} {xs : List Int} (h : SlI w B k (some a) n c xs) (h0 : n = 0) (a' : Addr) : SlI w B k (some a') n c xs :=
  ⟨h.1, h.2.1, h.2.2.1, (fun e => by cases e), fun hn => absurd hn (by rw [h.1, h0]; exact Nat.lt_irrefl 0)⟩
theorem mHeld_setRow {W : World} {B : Nat} {t : TypeId} {cs : Array Value} (h : Held W B t cs) (cs' : Array Value) : Held (W.setRow B cs') B t cs' := setRow_heap W B cs cs' t (0, 0) h
theorem nv_text (m : Int) (W : World) : (nilAhead 266 107 (.int .i64 m) "kilowatt/model.value").run Tryd.prog W = .ok (some false) W := by kernel_rfl
theorem mv_text (m : Int) (W : World) : (method 266 107 (.int .i64 m) "kilowatt/model.value").run Tryd.prog W = .ok (69, .int .i64 m) W := by kernel_rfl
theorem cv_text (xs : Array Value) (W : World) : (callFunc 69 xs).run Tryd.prog W = .ok (.enter 69 xs) W := enters_of Tryd.func69 (by kernel_rfl) rfl xs W
theorem nv_signed (m : Int) (W : World) : (nilAhead 266 108 (.int .i64 m) "kilowatt/model.value").run Tryd.prog W = .ok (some false) W := by kernel_rfl
theorem mv_signed (m : Int) (W : World) : (method 266 108 (.int .i64 m) "kilowatt/model.value").run Tryd.prog W = .ok (83, .int .i64 m) W := by kernel_rfl
theorem cv_signed (xs : Array Value) (W : World) : (callFunc 83 xs).run Tryd.prog W = .ok (.enter 83 xs) W := enters_of Tryd.func83 (by kernel_rfl) rfl xs W
theorem nv_plain (m : Int) (W : World) : (nilAhead 266 109 (.int .i64 m) "kilowatt/model.value").run Tryd.prog W = .ok (some false) W := by kernel_rfl
theorem mv_plain (m : Int) (W : World) : (method 266 109 (.int .i64 m) "kilowatt/model.value").run Tryd.prog W = .ok (94, .int .i64 m) W := by kernel_rfl
theorem cv_plain (xs : Array Value) (W : World) : (callFunc 94 xs).run Tryd.prog W = .ok (.enter 94 xs) W := enters_of Tryd.func94 (by kernel_rfl) rfl xs W
set_option maxHeartbeats 4000000 in
theorem block_own (id : Int) (A : Option Addr) (n c : Nat) (ps : List PtP) (A' : Option Addr) (n' c' : Nat) (xs : List Int) (w : World) (hP : PtI w w.heap.size A n c ps) (hall : ps.all ptB = true) (hn1 : 0 < n) (hn50 : n ≤ 50) (hS : SlI w w.heap.size .u16 A' n' c' xs) (hx : ∀ x ∈ xs, 0 ≤ x ∧ x < 65536) (hlen : sumT ps ≤ n') :
    Calls Tryd.prog 24 #[.agg #[.int .i64 id, .slice A n c], .slice A' n' c'] w fun e w' => ∃ Ap cp Av cv, e = .returned (.agg #[.int .i64 id, .slice Ap n cp, .slice Av n cv]) ∧ PtI w' w'.heap.size Ap n cp ps ∧ VlI w' w'.heap.size Av n cv (rdVs ps xs) ∧ (TyAt w' 42 Ap ∧ TyAt w' 46 Av) ∧ Below w.heap.size w w' := by
  obtain ⟨i0, hi, hz0, hz1, hz2⟩ := info_parts infoVal
  obtain ⟨w2, hw2⟩ : ∃ W, (w.alloc (.cells #[.int .i64 id, .slice A n c] 34)).alloc (.cells #[.int .i64 0, .slice none 0 0, .slice none 0 0] 37) = W := ⟨_, rfl⟩
  have hb2 : Below w.heap.size w w2 := by rw [← hw2]; exact ((Below.refl _ w).alloc (Nat.le_refl _) _).alloc (by simp) _
  have hD2 : Held w2 w.heap.size 34 #[.int .i64 id, .slice A n c] := by rw [← hw2]; exact (Held.new w _ _).alloc _
  have hR2 : Held w2 (w.heap.size + 1) 37 #[.int .i64 0, .slice none 0 0, .slice none 0 0] := by
    rw [← hw2]
    have := Held.new (w.alloc (.cells #[.int .i64 id, .slice A n c] 34)) 37 #[.int .i64 0, .slice none 0 0, .slice none 0 0]
    rw [World.size_alloc] at this
    exact this
  have d0 : w2.cell? ⟨w.heap.size, 0, none⟩ = some (.int .i64 id) := hD2.cell 0
  have d1 : w2.cell? ⟨w.heap.size, 1, none⟩ = some (.slice A n c) := hD2.cell 1
  have hwb := hD2.lt
  have hl := hP.1
  have HL := Lib.hid hl
  have HP := Lib.hid (fun (X : World) (h : Below w2.heap.size w2 X) => (hP.up hb2).up h)
  have HCL := Lib.hid (fun (X : World) (h : Below w2.heap.size w2 X) => pclone_any A n c ps X (HP.out X h) hn1 (by omega))
  have HALL := Lib.hid hall
  have HLEN := Lib.hid hlen
  have HSL := Lib.hid (fun (X : World) (h : Below w.heap.size w X) => hS.up h)
  have HX := Lib.hid hx
  clear hP hall hS hx hl hlen
  go_in
  go_upto_region 1 with (fail)
  clear hw2
  go_cut [5] from 8 (fun s5 wx => ∃ gB Ap cp, s5 = .pointer (some ⟨gB, 0, none⟩) ∧ Held wx gB 37 #[.int .i64 id, .slice Ap n cp, .slice none 0 0] ∧ PtI wx wx.heap.size Ap n cp ps ∧ Below w2.heap.size w2 wx ∧ w2.heap.size ≤ gB ∧ (∀ a, Ap = some a → a.block ≠ gB ∧ w2.heap.size ≤ a.block) ∧ TyAt wx 42 Ap)
  case first =>
    obtain ⟨wd1, hwd1⟩ : ∃ W : World, w2.drew = W := ⟨_, rfl⟩
    have hS : Below w2.heap.size w2 wd1 := by rw [← hwd1]; exact (Below.refl _ _).drew
    refine wp_region_held (S := Below w2.heap.size w2) (by kernel_rfl) ?_
    change wpAnyH _ _ _ _ _ _ _ _ w2.drew
    rw [hwd1]
    clear hwd1
    refine wpAnyH_take (i := 0) (v := ?v0_1) rfl (by kernel_rfl) (by kernel_rfl) (by kernel_rfl) (fun _ _ _ h => h) (Or.inl ⟨by rfl, ?y0_1⟩) hS ?r0_1
    case y0_1 =>
      rintro W hH
      go_simp
      with_reducible rfl
    simp only [Act.put]
    try simp only [List.getElem_toArray, List.getElem_cons_zero]
    refine wpAnyH_take (i := 1) (v := ?v1_2) rfl (by kernel_rfl) (by kernel_rfl) (by kernel_rfl) (fun _ _ _ h => h) (Or.inl ⟨by rfl, ?y1_2⟩) hS ?r1_2
    case y1_2 =>
      rintro W hH
      have q0 := (hH.cell (p := ⟨w.heap.size, 0, none⟩) hwb).trans d0
      have q1 := (hH.cell (p := ⟨w.heap.size, 1, none⟩) hwb).trans d1
      go_simp
      with_reducible rfl
    simp only [Act.put]
    try simp only [List.getElem_toArray, List.getElem_cons_succ, List.getElem_cons_zero]
    refine wpAnyH_take (i := 2) (v := ?v2_3) rfl (by kernel_rfl) (by kernel_rfl) (by kernel_rfl) (fun _ _ _ h => h) (Or.inl ⟨by rfl, ?y2_3⟩) hS ?r2_3
    case y2_3 =>
      rintro W hH
      go_simp
      with_reducible rfl
    simp only [Act.put]
    try simp only [List.getElem_toArray, List.getElem_cons_succ, List.getElem_cons_zero]
    refine wpAnyH_take (i := 3) (v := ?v3_4) rfl (by kernel_rfl) (by kernel_rfl) (by kernel_rfl) (fun _ _ _ h => h) (Or.inl ⟨by rfl, ?y3_4⟩) hS ?r3_4
    case y3_4 =>
      rintro W hH
      have q0 := (hH.cell (p := ⟨w.heap.size, 0, none⟩) hwb).trans d0
      have q1 := (hH.cell (p := ⟨w.heap.size, 1, none⟩) hwb).trans d1
      go_simp
      with_reducible rfl
    simp only [Act.put]
    try simp only [List.getElem_toArray, List.getElem_cons_succ, List.getElem_cons_zero]
    refine wpAnyH_ready (rs := [4, 7]) (by kernel_rfl) (by simp) ?_
    refine AllReadyH.cons rfl (fun K' hK' => ?_) (AllReadyH.cons rfl (fun K' hK' => ?_) AllReadyH.nil)
    · skip
      go_simp
      refine (HCL.out _ hS).mono ?_
      rintro e uA ⟨Ap, cp, rfl, hPk, hfk, hTk, hbk⟩
      have hfk2 : ∀ a, Ap = some a → w2.heap.size ≤ a.block := fun a e => Nat.le_trans hS.size (hfk a e)
      have hS1 := hS.trans (hbk.mono hS.size)
      go_simp
      refine hK'.out _ _ hS1 (fun hS => ?_)
      clear hK' K'
      refine wpAnyH_take (i := 5) (v := ?v5_5) rfl (by kernel_rfl) (by kernel_rfl) (by kernel_rfl) (fun _ _ _ h => h) (Or.inl ⟨by rfl, ?y5_5⟩) hS ?r5_5
      case y5_5 =>
        rintro W hH
        go_simp
        with_reducible rfl
      simp only [Act.put]
      try simp only [List.getElem_toArray, List.getElem_cons_succ, List.getElem_cons_zero]
      refine wpAnyH_take (i := 6) (v := ?v6_6) rfl (by kernel_rfl) (by kernel_rfl) (by kernel_rfl) (fun _ _ _ h => h) (Or.inl ⟨by rfl, ?y6_6⟩) hS ?r6_6
      case y6_6 =>
        rintro W hH
        go_simp
        with_reducible rfl
      simp only [Act.put]
      try simp only [List.getElem_toArray, List.getElem_cons_succ, List.getElem_cons_zero]
      refine wpAnyH_ready (rs := [7]) (by kernel_rfl) (by simp) ?_
      refine AllReadyH.cons rfl (fun K' hK' => ?_) AllReadyH.nil
      go_simp
      obtain ⟨gB, hgB⟩ : ∃ g, uA.heap.size = g := ⟨_, rfl⟩
      obtain ⟨uB, huB⟩ : ∃ W, uA.alloc (.cells #[.int .i64 0, .slice none 0 0, .slice none 0 0] 37) = W := ⟨_, rfl⟩
      have hbB : Below uA.heap.size uA uB := by rw [← huB]; exact (Below.refl _ _).alloc (Nat.le_refl _) _
      have hN : Held uB uA.heap.size 37 #[.int .i64 0, .slice none 0 0, .slice none 0 0] := by rw [← huB]; exact Held.new _ _ _
      have hgB1 : w2.heap.size ≤ gB := by rw [← hgB]; exact hS.size
      have hS1 := hS.trans (hbB.mono hS.size)
      have hne : ∀ a, Ap = some a → a.block ≠ gB := fun a e => by have h1 := hPk.lt hn1 a e; omega
      have hTk := hTk.same (fun a e => hbB.block _ (hPk.lt hn1 a e))
      have hPk := hPk.up hbB
      rw [huB]
      rw [hgB] at hN
      simp only [hgB]
      have hgB2 : gB < uB.heap.size := hN.lt
      clear huB hgB
      refine hK'.out _ _ hS1 (fun hS => ?_)
      clear hK' K'
      refine wpAnyH_ready (rs := [8]) (by kernel_rfl) (by simp) ?_
      refine AllReadyH.cons rfl (fun K' hK' => ?_) AllReadyH.nil
      have hPf := hPk.kept (W' := uB.setRow gB #[.int .i64 id, .slice Ap n cp, .slice none 0 0]) (B' := (uB.setRow gB #[.int .i64 id, .slice Ap n cp, .slice none 0 0]).heap.size) (Nat.le_of_eq (by first | rfl | (unfold World.setRow; simp))) (fun a e => setRow_other _ _ _ #[.int .i64 id, .slice Ap n cp, .slice none 0 0] (hne a e))
      have hTf := hTk.same (W' := uB.setRow gB #[.int .i64 id, .slice Ap n cp, .slice none 0 0]) (fun a e => setRow_other _ _ _ #[.int .i64 id, .slice Ap n cp, .slice none 0 0] (hne a e))
      have hR := mHeld_setRow hN #[.int .i64 id, .slice Ap n cp, .slice none 0 0]
      refine wp_store_row 37 _ _ rfl _ _ rfl rfl 37 _ hN (by kernel_rfl) rfl (by simp [Value.oneCell']) ?_
      refine hK'.out _ _ (below_setRow hS hgB1 _) (fun hS => ?_)
      clear hK' K'
      refine wpAnyH_done (by kernel_rfl) ?_ _
      go_wp2_with fail
      go_meet
      case rel => exact ⟨gB, Ap, cp, rfl, hR, hPf, hS, hgB1, fun a e => ⟨hne a e, hfk2 a e⟩, hTf⟩
    · skip
      go_simp
      obtain ⟨gB, hgB⟩ : ∃ g, wd1.heap.size = g := ⟨_, rfl⟩
      obtain ⟨uB, huB⟩ : ∃ W, wd1.alloc (.cells #[.int .i64 0, .slice none 0 0, .slice none 0 0] 37) = W := ⟨_, rfl⟩
      have hbB : Below wd1.heap.size wd1 uB := by rw [← huB]; exact (Below.refl _ _).alloc (Nat.le_refl _) _
      have hN : Held uB wd1.heap.size 37 #[.int .i64 0, .slice none 0 0, .slice none 0 0] := by rw [← huB]; exact Held.new _ _ _
      have hgB1 : w2.heap.size ≤ gB := by rw [← hgB]; exact hS.size
      have hS1 := hS.trans (hbB.mono hS.size)
      rw [huB]
      rw [hgB] at hN
      simp only [hgB]
      have hgB2 : gB < uB.heap.size := hN.lt
      clear huB hgB
      refine hK'.out _ _ hS1 (fun hS => ?_)
      clear hK' K'
      refine wpAnyH_ready (rs := [4]) (by kernel_rfl) (by simp) ?_
      refine AllReadyH.cons rfl (fun K' hK' => ?_) AllReadyH.nil
      go_simp
      refine (HCL.out _ hS).mono ?_
      rintro e uA ⟨Ap, cp, rfl, hPk, hfk, hTk, hbk⟩
      have hfk2 : ∀ a, Ap = some a → w2.heap.size ≤ a.block := fun a e => Nat.le_trans hS.size (hfk a e)
      have hS1 := hS.trans (hbk.mono hS.size)
      have hN := hN.below hbk hN.lt
      have hne : ∀ a, Ap = some a → a.block ≠ gB := fun a e => by have h1 := hfk a e; have h2 := hgB2; omega
      go_simp
      refine hK'.out _ _ hS1 (fun hS => ?_)
      clear hK' K'
      refine wpAnyH_take (i := 5) (v := ?v5_7) rfl (by kernel_rfl) (by kernel_rfl) (by kernel_rfl) (fun _ _ _ h => h) (Or.inl ⟨by rfl, ?y5_7⟩) hS ?r5_7
      case y5_7 =>
        rintro W hH
        go_simp
        with_reducible rfl
      simp only [Act.put]
      try simp only [List.getElem_toArray, List.getElem_cons_succ, List.getElem_cons_zero]
      refine wpAnyH_take (i := 6) (v := ?v6_8) rfl (by kernel_rfl) (by kernel_rfl) (by kernel_rfl) (fun _ _ _ h => h) (Or.inl ⟨by rfl, ?y6_8⟩) hS ?r6_8
      case y6_8 =>
        rintro W hH
        go_simp
        with_reducible rfl
      simp only [Act.put]
      try simp only [List.getElem_toArray, List.getElem_cons_succ, List.getElem_cons_zero]
      refine wpAnyH_ready (rs := [8]) (by kernel_rfl) (by simp) ?_
      refine AllReadyH.cons rfl (fun K' hK' => ?_) AllReadyH.nil
      have hPf := hPk.kept (W' := uA.setRow gB #[.int .i64 id, .slice Ap n cp, .slice none 0 0]) (B' := (uA.setRow gB #[.int .i64 id, .slice Ap n cp, .slice none 0 0]).heap.size) (Nat.le_of_eq (by first | rfl | (unfold World.setRow; simp))) (fun a e => setRow_other _ _ _ #[.int .i64 id, .slice Ap n cp, .slice none 0 0] (hne a e))
      have hTf := hTk.same (W' := uA.setRow gB #[.int .i64 id, .slice Ap n cp, .slice none 0 0]) (fun a e => setRow_other _ _ _ #[.int .i64 id, .slice Ap n cp, .slice none 0 0] (hne a e))
      have hR := mHeld_setRow hN #[.int .i64 id, .slice Ap n cp, .slice none 0 0]
      refine wp_store_row 37 _ _ rfl _ _ rfl rfl 37 _ hN (by kernel_rfl) rfl (by simp [Value.oneCell']) ?_
      refine hK'.out _ _ (below_setRow hS hgB1 _) (fun hS => ?_)
      clear hK' K'
      refine wpAnyH_done (by kernel_rfl) ?_ _
      go_wp2_with fail
      go_meet
      case rel => exact ⟨gB, Ap, cp, rfl, hR, hPf, hS, hgB1, fun a e => ⟨hne a e, hfk2 a e⟩, hTf⟩
  case rest =>
  obtain ⟨gB, Ap, cp, rfl, hHc, hPc, hbc, hgB, hne, hTc⟩ := hcut
  obtain ⟨b0, hb0⟩ : ∃ b, wc.heap.size = b := ⟨_, rfl⟩
  have hgb0 : gB < b0 := by rw [← hb0]; exact hHc.lt
  have HPC := Lib.hid hPc
  have HTC := Lib.hid hTc
  have HWC := Lib.hid hbc
  have e1 : wc.cell? ⟨w.heap.size, 1, none⟩ = some (.slice A n c) := (hbc.cell (p := ⟨w.heap.size, 1, none⟩) hwb).trans d1
  have hown0 : wc.ownsRow b0 46 3 (.slice none 0 0) 0 (valC []) := World.ownsRow_nil _ _ _ _
  have HB0 := Lib.hid hb0
  clear hPc hb0 d0 d1 hTc
  go_wp2_with fail
  go_loopw [1, 18] (fun s1 s18 wx => ∃ (j : Nat) (A1 : Option Addr) (n1 c1 : Nat) (v : Value), j ≤ n ∧ s18 = .int .i64 j ∧ s1 = .slice A1 n1 c1 ∧ (∀ (X : World), Below w.heap.size w X → SlI X X.heap.size .u16 A1 n1 c1 (xs.drop (sumT (ps.take j)))) ∧ Held wx gB 37 #[.int .i64 id, .slice Ap n cp, v] ∧ wx.ownsRow b0 46 3 v j (valC (rdVs (ps.take j) xs)) ∧ Kx gB b0 wc wx) (fun _ s18 _ => n - (intOf s18).toNat)
  case atStart => exact ⟨0, A', n', c', .slice none 0 0, Nat.zero_le _, rfl, rfl, fun X h => by simpa [sumT] using HSL.out X h, hHc, hown0, Kx.refl _ _ _⟩
  case round =>
    obtain ⟨j, A1, n1, c1, v, hj, rfl, rfl, hsl, hH, hrow, hk⟩ := hrel
    clear e1 hHc hown0
    have hszr : b0 ≤ wr.heap.size := by rw [← HB0.out]; exact hk.1.size
    have hb2r : Below w2.heap.size w2 wr := HWC.out.trans (hk.1.mono hgB)
    have hbrw : Below w.heap.size w wr := hb2.trans (hb2r.mono hb2.size)
    by_cases hlt : j < n
    · obtain ⟨⟨k, m⟩, hp⟩ : ∃ p, ps[j]? = some p := ⟨_, List.getElem?_eq_getElem (by rw [HL.out]; exact hlt)⟩
      obtain ⟨g, off, rfl, hg, hc⟩ := (HP.out wr hb2r).2.2.2.2 (by omega)
      obtain ⟨c0, c1'⟩ := hc j _ hp
      dsimp only at c0 c1'
      have hpb : ptB ⟨k, m⟩ = true := List.all_eq_true.1 HALL.out _ (List.mem_of_getElem? hp)
      have hm := ptB_in hpb
      dsimp only at hm
      have hst := sumT_next ps j _ hp
      have hst2 := sumT_take ps (j + 1)
      have hrn := rdVs_next ps j _ xs hp
      dsimp only at hst hrn
      obtain ⟨q, rfl⟩ := Int.eq_ofNat_of_zero_le (show 0 ≤ m by omega)
      rw [Int.toNat_natCast] at hst hrn
      have hLEN := HLEN.out
      obtain ⟨T, hT⟩ : ∃ T, sumT (ps.take j) = T := ⟨_, rfl⟩
      rw [hT] at hst hrn
      simp only [hT] at hsl
      have hxl := (HSL.out w (Below.refl _ _)).1
      have hln1 := (hsl wr hbrw).1
      have hcn1 := (hsl wr hbrw).2.1
      have hcm1 := (hsl wr hbrw).2.2.1
      rw [List.length_drop, hxl] at hln1
      have hq1 : q ≤ n1 := by omega
      obtain ⟨g1, o1, rfl, _⟩ := (hsl wr hbrw).some_ (show 0 < n1 by omega)
      have HCV := Lib.hid (fun (f : FuncId) (X : World) (h : Below w.heap.size w X) => coder_value ⟨k, (q : Int)⟩ f (some ⟨g1, o1, none⟩) q c1 ((xs.drop T).take q) (by omega) (fun x hx => HX.out x (List.mem_of_mem_drop (List.mem_of_mem_take hx))) X ((hsl X h).take q hq1))
      obtain ⟨⟨vu, vi, vs⟩, hvv⟩ : ∃ v, rdV ⟨k, (q : Int)⟩ ((xs.drop T).take q) = v := ⟨_, rfl⟩
      rw [hvv] at HCV hrn
      unfold valV at HCV
      dsimp only at HCV
      have HST := Lib.hid hst
      have HRN := Lib.hid hrn
      have HSLJ := Lib.hid hsl
      have HDR := Lib.hid (fun (X : World) (h : Below w.heap.size w X) => (hsl X h).drop q hq1)
      clear hc hp hst hrn hvv hsl hst2 hLEN hxl hln1 hT
      obtain ⟨w3, hw3⟩ : ∃ W, wr.alloc (.cells #[.int .i64 k, .int .i64 (q : Int)] 42) = W := ⟨_, rfl⟩
      have hb3 : Below wr.heap.size wr w3 := by rw [← hw3]; exact (Below.refl _ _).alloc (Nat.le_refl _) _
      have hP3 : Held w3 wr.heap.size 42 #[.int .i64 k, .int .i64 (q : Int)] := by rw [← hw3]; exact Held.new _ _ _
      have hH3 := hH.below hb3 hH.lt
      have HROW := Lib.hid (fun (X : World) (h : Below wr.heap.size wr X) => mown_up hrow h)
      have hltI : (j : Int) < (n : Int) := by omega
      have HOF := Lib.hid (fun (X : World) => of_any ⟨k, (q : Int)⟩ X)
      obtain ⟨TY, f, hcv, hna, hme, hcf, hTf⟩ : ∃ (T : TypeId) (f : FuncId), coderV ⟨k, (q : Int)⟩ = .iface T (.int .i64 q) ∧ (∀ W, (nilAhead 266 T (.int .i64 q) "kilowatt/model.value").run Tryd.prog W = .ok (some false) W) ∧ (∀ W, (method 266 T (.int .i64 q) "kilowatt/model.value").run Tryd.prog W = .ok (f, .int .i64 q) W) ∧ (∀ xs W, (callFunc f xs).run Tryd.prog W = .ok (.enter f xs) W) ∧ ((k = 3 ∧ f = 69) ∨ (k ≠ 3 ∧ k = 2 ∧ f = 83) ∨ (k ≠ 3 ∧ k ≠ 2 ∧ f = 94)) := by
        unfold coderV
        by_cases h3 : k = 3
        · exact ⟨_, _, if_pos h3, nv_text q, mv_text q, cv_text, Or.inl ⟨h3, rfl⟩⟩
        · by_cases h2 : k = 2
          · exact ⟨_, _, by rw [if_neg h3, if_pos h2], nv_signed q, mv_signed q, cv_signed, Or.inr (Or.inl ⟨h3, h2, rfl⟩)⟩
          · exact ⟨_, _, by rw [if_neg h3, if_neg h2], nv_plain q, mv_plain q, cv_plain, Or.inr (Or.inr ⟨h3, h2, rfl⟩)⟩
      rw [hcv] at HOF
      have HTF2 := Lib.hid hTf
      clear hcv hTf hpb
      have hHlt : gB < wr.heap.size := by omega
      have hq2 : (q : Int) ≤ (c1 : Int) := by omega
      have hq3 : q ≤ c1 := by omega
      have hq4 : (q : Int) ≤ (n1 : Int) := by omega
      have HA1 := Lib.hid (show j + 1 ≤ maxLen ∧ (j + 1) * 32 ≤ 140737488355328 by unfold maxLen; omega)
      go_upto_region 5 with (fail)
      have hB : Below w3.heap.size w3 w3.drew := (Below.refl _ _).drew
      obtain ⟨wd5, hwd5⟩ : ∃ W : World, w3.drew = W := ⟨_, rfl⟩
      have hB : Below w3.heap.size w3 wd5 := by rw [← hwd5]; exact (Below.refl _ _).drew
      have hG : Held wd5 gB 37 #[.int .i64 id, .slice Ap n cp, v] := by rw [← hwd5]; exact hH3
      have hS : Held wd5 wr.heap.size 42 #[.int .i64 k, .int .i64 (q : Int)] ∧ Below w2.heap.size w2 wd5 := by rw [← hwd5]; exact ⟨hP3, (hb2r.trans (hb3.mono hb2r.size)).drew⟩
      refine wp_region_held (S := (fun X => Held X wr.heap.size 42 #[.int .i64 k, .int .i64 (q : Int)] ∧ Below w2.heap.size w2 X)) (by kernel_rfl) ?_
      change wpAnyH _ _ _ _ _ _ _ _ w3.drew
      rw [hwd5]
      clear hwd5
      refine wpAnyH_take (i := 0) (v := ?v0_101) rfl (by kernel_rfl) (by kernel_rfl) (by kernel_rfl) (fun _ _ _ h => h) (Or.inl ⟨by rfl, ?y0_101⟩) hS ?r0_101
      case y0_101 =>
        rintro W hH
        go_simp
        with_reducible rfl
      simp only [Act.put]
      try simp only [List.getElem_toArray, List.getElem_cons_zero]
      refine wpAnyH_take (i := 2) (v := ?v2_102) rfl (by kernel_rfl) (by kernel_rfl) (by kernel_rfl) (fun _ _ _ h => h) (Or.inl ⟨by rfl, ?y2_102⟩) hS ?r2_102
      case y2_102 =>
        rintro W hH
        have q0 := hH.1.cell 0
        have q1 := hH.1.cell 1
        go_simp
        with_reducible rfl
      simp only [Act.put]
      try simp only [List.getElem_toArray, List.getElem_cons_succ, List.getElem_cons_zero]
      refine wpAnyH_take (i := 4) (v := ?v4_103) rfl (by kernel_rfl) (by kernel_rfl) (by kernel_rfl) (fun _ _ _ h => h) (Or.inl ⟨by rfl, ?y4_103⟩) hS ?r4_103
      case y4_103 =>
        rintro W hH
        go_simp
        with_reducible rfl
      simp only [Act.put]
      try simp only [List.getElem_toArray, List.getElem_cons_succ, List.getElem_cons_zero]
      refine wpAnyH_take (i := 5) (v := ?v5_104) rfl (by kernel_rfl) (by kernel_rfl) (by kernel_rfl) (fun _ _ _ h => h) (Or.inl ⟨by rfl, ?y5_104⟩) hS ?r5_104
      case y5_104 =>
        rintro W hH
        go_simp
        with_reducible rfl
      simp only [Act.put]
      try simp only [List.getElem_toArray, List.getElem_cons_succ, List.getElem_cons_zero]
      refine wpAnyH_take (i := 6) (v := ?v6_105) rfl (by kernel_rfl) (by kernel_rfl) (by kernel_rfl) (fun _ _ _ h => h) (Or.inl ⟨by rfl, ?y6_105⟩) hS ?r6_105
      case y6_105 =>
        rintro W hH
        have q0 := hH.1.cell 0
        have q1 := hH.1.cell 1
        go_simp
        with_reducible rfl
      simp only [Act.put]
      try simp only [List.getElem_toArray, List.getElem_cons_succ, List.getElem_cons_zero]
      refine wpAnyH_take (i := 7) (v := ?v7_106) rfl (by kernel_rfl) (by kernel_rfl) (by kernel_rfl) (fun _ _ _ h => h) (Or.inl ⟨by rfl, ?y7_106⟩) hS ?r7_106
      case y7_106 =>
        rintro W hH
        go_simp
        with_reducible rfl
      simp only [Act.put]
      try simp only [List.getElem_toArray, List.getElem_cons_succ, List.getElem_cons_zero]
      refine wpAnyH_ready (rs := [1, 3]) (by kernel_rfl) (by simp) ?_
      refine AllReadyH.cons rfl (fun K' hK' => ?_) (AllReadyH.cons rfl (fun K' hK' => ?_) AllReadyH.nil)
      · skip
        have q2 := hG.cell 2
        go_simp
        refine hK'.out _ _ hS (fun hS => ?_)
        clear hK' K'
        refine wpAnyH_ready (rs := [3]) (by kernel_rfl) (by simp) ?_
        refine AllReadyH.cons rfl (fun K' hK' => ?_) AllReadyH.nil
        go_simp
        refine (HOF.out _).mono ?_
        rintro e u1 ⟨rfl, hbo⟩
        have hB1 := hB.trans (hbo.mono hB.size)
        have hG := hG.below hbo hG.lt
        go_simp
        refine hK'.out _ _ ⟨hS.1.below hbo hS.1.lt, hS.2.trans (hbo.mono hS.2.size)⟩ (fun hS => ?_)
        clear hK' K'
        refine wpAnyH_take (i := 8) (v := ?v8_107) rfl (by kernel_rfl) (by kernel_rfl) (by kernel_rfl) (fun _ _ _ h => h) (Or.inl ⟨by rfl, ?y8_107⟩) hS ?r8_107
        case y8_107 =>
          rintro W hH
          go_simp
          with_reducible rfl
        simp only [Act.put]
        try simp only [List.getElem_toArray, List.getElem_cons_succ, List.getElem_cons_zero]
        refine wpAnyH_take (i := 9) (v := ?v9_108) rfl (by kernel_rfl) (by kernel_rfl) (by kernel_rfl) (fun _ _ _ h => h) (Or.inl ⟨by rfl, ?y9_108⟩) hS ?r9_108
        case y9_108 =>
          rintro W hH
          go_simp
          with_reducible rfl
        simp only [Act.put]
        try simp only [List.getElem_toArray, List.getElem_cons_succ, List.getElem_cons_zero]
        refine wpAnyH_take (i := 10) (v := ?v10_109) rfl (by kernel_rfl) (by kernel_rfl) (by kernel_rfl) (fun _ _ _ h => h) (Or.inl ⟨by rfl, ?y10_109⟩) hS ?r10_109
        case y10_109 =>
          rintro W hH
          go_simp
          with_reducible rfl
        simp only [Act.put]
        try simp only [List.getElem_toArray, List.getElem_cons_succ, List.getElem_cons_zero]
        refine wpAnyH_ready (rs := [11]) (by kernel_rfl) (by simp) ?_
        refine AllReadyH.cons rfl (fun K' hK' => ?_) AllReadyH.nil
        go_simp
        refine (HCV.out f _ (hbrw.trans ((hb3.trans (hB1.mono hb3.size)).mono hbrw.size)) HTF2.out).mono ?_
        rintro e u2 ⟨rfl, hbv⟩
        have hB2 := hB1.trans (hbv.mono hB1.size)
        have hG := hG.below hbv hG.lt
        go_simp
        refine hK'.out _ _ ⟨hS.1.below hbv hS.1.lt, hS.2.trans (hbv.mono hS.2.size)⟩ (fun hS => ?_)
        clear hK' K'
        refine wpAnyH_ready (rs := [12]) (by kernel_rfl) (by simp) ?_
        refine AllReadyH.cons rfl (fun K' hK' => ?_) AllReadyH.nil
        go_simp
        obtain ⟨u3, hu3⟩ : ∃ W, u2.alloc (.cells #[.int .u64 vu, .int .i64 vi, .string vs] 46) = W := ⟨_, rfl⟩
        have hbl : Below u2.heap.size u2 u3 := by rw [← hu3]; exact (Below.refl _ _).alloc (Nat.le_refl _) _
        have hnew : ∀ j u, ([.int .u64 vu, .int .i64 vi, .string vs] : List Value)[j]? = some u → u3.cell? ((⟨u2.heap.size, 0, none⟩ : Addr).add j) = some u := by rw [← hu3]; exact World.news_of_block (cs := #[.int .u64 vu, .int .i64 vi, .string vs]) (t := 46) (fr := (0, 0)) (heap_alloc_new u2 _)
        have hB3 := hB2.trans (hbl.mono hB2.size)
        have hG := hG.below hbl hG.lt
        rw [hu3]
        clear hu3
        refine hK'.out _ _ ⟨hS.1.below hbl hS.1.lt, hS.2.trans (hbl.mono hS.2.size)⟩ (fun hS => ?_)
        clear hK' K'
        refine wpAnyH_ready (rs := [13]) (by kernel_rfl) (by simp) ?_
        refine AllReadyH.cons rfl (fun K' hK' => ?_) AllReadyH.nil
        have hb3r := hb3.trans (hB3.mono hb3.size)
        have hrow3 := HROW.out u3 hb3r
        have hz3 : b0 ≤ u3.heap.size := Nat.le_trans hszr hb3r.size
        refine step_append_lies _ (by rfl) _ _ _ (by rfl) b0 46 i0 (.agg #[.int .u64 0, .int .i64 0, .string ⟨#[]⟩]) 3 32 Tryd.underlying35 hi hz0 hz1 hz2 rfl (by decide) v j _ (by rfl) hrow3 ⟨u2.heap.size, 0, none⟩ 1 1 [.int .u64 vu, .int .i64 vi, .string vs] (by rfl) (by rfl) hnew (by simp [Value.oneCell']) (by omega) HA1.out.1 HA1.out.2 hz3 _ rfl ?_
        intro gg cc u4 hown4 hgrow hat hlt4
        have hne4 := hG.not_row (by decide) hrow3
        have hnp4 := hS.1.not_row (by decide) hrow3
        have hk4 : Below b0 wr u4 := (hb3r.mono hszr).grown hgrow hz3 (fun k hk => (hrow3.lt k hk).1)
        have hH4 := hG.kept hgrow hne4
        refine hK'.out _ _ ⟨hS.1.kept hgrow hnp4, hS.2.grown hgrow hS.2.size (fun k hk => by have h1 := (hrow3.lt k hk).1; omega)⟩ (fun hS => ?_)
        clear hK' K'
        refine wpAnyH_take (i := 14) (v := ?v14_110) rfl (by kernel_rfl) (by kernel_rfl) (by kernel_rfl) (fun _ _ _ h => h) (Or.inl ⟨by rfl, ?y14_110⟩) hS ?r14_110
        case y14_110 =>
          rintro W hH
          go_simp
          with_reducible rfl
        simp only [Act.put]
        try simp only [List.getElem_toArray, List.getElem_cons_succ, List.getElem_cons_zero]
        refine wpAnyH_ready (rs := [15]) (by kernel_rfl) (by simp) ?_
        refine AllReadyH.cons rfl (fun K' hK' => ?_) AllReadyH.nil
        have s2 := hH4.cell 2
        have hff := hH4.frozen
        go_simp
        refine hK'.out _ _ ⟨hS.1.far (by show wr.heap.size ≠ gB; omega) _, hS.2.setCell (p := ⟨gB, 2, none⟩) hgB _⟩ (fun hS => ?_)
        clear hK' K'
        refine wpAnyH_done (by kernel_rfl) ?_ _
        obtain ⟨w7, hw7⟩ : ∃ W, u4.setCell ⟨gB, 2, none⟩ (.slice (some ⟨gg, 0, none⟩) (j + 1) cc) = W := ⟨_, rfl⟩
        have hk7 : Kx gB b0 wc w7 := by rw [← hw7]; exact hk.trans ((Kx.of_below hk4 (Nat.le_of_lt hgb0)).set 2 _)
        have hH7 : Held w7 gB 37 #[.int .i64 id, .slice Ap n cp, .slice (some ⟨gg, 0, none⟩) (j + 1) cc] := by rw [← hw7]; have h := hH4.set 2 (.slice (some ⟨gg, 0, none⟩) (j + 1) cc); simpa using h
        have hP7 : Held w7 wr.heap.size 42 #[.int .i64 k, .int .i64 (q : Int)] := by rw [← hw7]; exact hS.1
        have hO7 : w7.ownsRow b0 46 3 (.slice (some ⟨gg, 0, none⟩) (j + 1) cc) (j + 1) (valC (rdVs (ps.take j) xs) ++ [.int .u64 vu, .int .i64 vi, .string vs]) := by rw [← hw7]; exact hown4.kept (grownBy_set (World.grownBy.refl _ _) (p := ⟨gB, 2, none⟩) rfl _) (.inr (hH4.not_row (by decide) hown4).symm)
        rw [hw7]
        clear hw7 hS
        have q1 := hP7.cell 1
        go_wp2_with fail
        refine ⟨⟨j + 1, if c1 = q then some ⟨g1, o1, none⟩ else some ⟨g1, o1 + q, none⟩, n1 - q, c1 - q, _, by omega, by go_num, rfl, fun X h => ?_, hH7, by rw [HRN.out, valC_append]; exact hO7, hk7⟩, by simp [intOf]; omega⟩
        rw [HST.out, ← List.drop_drop]
        have h9 := HDR.out X h
        split
        · exact h9.addr (by omega) _
        · exact h9
      · skip
        go_simp
        refine (HOF.out _).mono ?_
        rintro e u1 ⟨rfl, hbo⟩
        have hB1 := hB.trans (hbo.mono hB.size)
        have hG := hG.below hbo hG.lt
        go_simp
        refine hK'.out _ _ ⟨hS.1.below hbo hS.1.lt, hS.2.trans (hbo.mono hS.2.size)⟩ (fun hS => ?_)
        clear hK' K'
        refine wpAnyH_take (i := 8) (v := ?v8_111) rfl (by kernel_rfl) (by kernel_rfl) (by kernel_rfl) (fun _ _ _ h => h) (Or.inl ⟨by rfl, ?y8_111⟩) hS ?r8_111
        case y8_111 =>
          rintro W hH
          go_simp
          with_reducible rfl
        simp only [Act.put]
        try simp only [List.getElem_toArray, List.getElem_cons_succ, List.getElem_cons_zero]
        refine wpAnyH_take (i := 9) (v := ?v9_112) rfl (by kernel_rfl) (by kernel_rfl) (by kernel_rfl) (fun _ _ _ h => h) (Or.inl ⟨by rfl, ?y9_112⟩) hS ?r9_112
        case y9_112 =>
          rintro W hH
          go_simp
          with_reducible rfl
        simp only [Act.put]
        try simp only [List.getElem_toArray, List.getElem_cons_succ, List.getElem_cons_zero]
        refine wpAnyH_take (i := 10) (v := ?v10_113) rfl (by kernel_rfl) (by kernel_rfl) (by kernel_rfl) (fun _ _ _ h => h) (Or.inl ⟨by rfl, ?y10_113⟩) hS ?r10_113
        case y10_113 =>
          rintro W hH
          go_simp
          with_reducible rfl
        simp only [Act.put]
        try simp only [List.getElem_toArray, List.getElem_cons_succ, List.getElem_cons_zero]
        refine wpAnyH_ready (rs := [1, 11]) (by kernel_rfl) (by simp) ?_
        refine AllReadyH.cons rfl (fun K' hK' => ?_) (AllReadyH.cons rfl (fun K' hK' => ?_) AllReadyH.nil)
        · skip
          have q2 := hG.cell 2
          go_simp
          refine hK'.out _ _ hS (fun hS => ?_)
          clear hK' K'
          refine wpAnyH_ready (rs := [11]) (by kernel_rfl) (by simp) ?_
          refine AllReadyH.cons rfl (fun K' hK' => ?_) AllReadyH.nil
          go_simp
          refine (HCV.out f _ (hbrw.trans ((hb3.trans (hB1.mono hb3.size)).mono hbrw.size)) HTF2.out).mono ?_
          rintro e u2 ⟨rfl, hbv⟩
          have hB2 := hB1.trans (hbv.mono hB1.size)
          have hG := hG.below hbv hG.lt
          go_simp
          refine hK'.out _ _ ⟨hS.1.below hbv hS.1.lt, hS.2.trans (hbv.mono hS.2.size)⟩ (fun hS => ?_)
          clear hK' K'
          refine wpAnyH_ready (rs := [12]) (by kernel_rfl) (by simp) ?_
          refine AllReadyH.cons rfl (fun K' hK' => ?_) AllReadyH.nil
          go_simp
          obtain ⟨u3, hu3⟩ : ∃ W, u2.alloc (.cells #[.int .u64 vu, .int .i64 vi, .string vs] 46) = W := ⟨_, rfl⟩
          have hbl : Below u2.heap.size u2 u3 := by rw [← hu3]; exact (Below.refl _ _).alloc (Nat.le_refl _) _
          have hnew : ∀ j u, ([.int .u64 vu, .int .i64 vi, .string vs] : List Value)[j]? = some u → u3.cell? ((⟨u2.heap.size, 0, none⟩ : Addr).add j) = some u := by rw [← hu3]; exact World.news_of_block (cs := #[.int .u64 vu, .int .i64 vi, .string vs]) (t := 46) (fr := (0, 0)) (heap_alloc_new u2 _)
          have hB3 := hB2.trans (hbl.mono hB2.size)
          have hG := hG.below hbl hG.lt
          rw [hu3]
          clear hu3
          refine hK'.out _ _ ⟨hS.1.below hbl hS.1.lt, hS.2.trans (hbl.mono hS.2.size)⟩ (fun hS => ?_)
          clear hK' K'
          refine wpAnyH_ready (rs := [13]) (by kernel_rfl) (by simp) ?_
          refine AllReadyH.cons rfl (fun K' hK' => ?_) AllReadyH.nil
          have hb3r := hb3.trans (hB3.mono hb3.size)
          have hrow3 := HROW.out u3 hb3r
          have hz3 : b0 ≤ u3.heap.size := Nat.le_trans hszr hb3r.size
          refine step_append_lies _ (by rfl) _ _ _ (by rfl) b0 46 i0 (.agg #[.int .u64 0, .int .i64 0, .string ⟨#[]⟩]) 3 32 Tryd.underlying35 hi hz0 hz1 hz2 rfl (by decide) v j _ (by rfl) hrow3 ⟨u2.heap.size, 0, none⟩ 1 1 [.int .u64 vu, .int .i64 vi, .string vs] (by rfl) (by rfl) hnew (by simp [Value.oneCell']) (by omega) HA1.out.1 HA1.out.2 hz3 _ rfl ?_
          intro gg cc u4 hown4 hgrow hat hlt4
          have hne4 := hG.not_row (by decide) hrow3
          have hnp4 := hS.1.not_row (by decide) hrow3
          have hk4 : Below b0 wr u4 := (hb3r.mono hszr).grown hgrow hz3 (fun k hk => (hrow3.lt k hk).1)
          have hH4 := hG.kept hgrow hne4
          refine hK'.out _ _ ⟨hS.1.kept hgrow hnp4, hS.2.grown hgrow hS.2.size (fun k hk => by have h1 := (hrow3.lt k hk).1; omega)⟩ (fun hS => ?_)
          clear hK' K'
          refine wpAnyH_take (i := 14) (v := ?v14_114) rfl (by kernel_rfl) (by kernel_rfl) (by kernel_rfl) (fun _ _ _ h => h) (Or.inl ⟨by rfl, ?y14_114⟩) hS ?r14_114
          case y14_114 =>
            rintro W hH
            go_simp
            with_reducible rfl
          simp only [Act.put]
          try simp only [List.getElem_toArray, List.getElem_cons_succ, List.getElem_cons_zero]
          refine wpAnyH_ready (rs := [15]) (by kernel_rfl) (by simp) ?_
          refine AllReadyH.cons rfl (fun K' hK' => ?_) AllReadyH.nil
          have s2 := hH4.cell 2
          have hff := hH4.frozen
          go_simp
          refine hK'.out _ _ ⟨hS.1.far (by show wr.heap.size ≠ gB; omega) _, hS.2.setCell (p := ⟨gB, 2, none⟩) hgB _⟩ (fun hS => ?_)
          clear hK' K'
          refine wpAnyH_done (by kernel_rfl) ?_ _
          obtain ⟨w7, hw7⟩ : ∃ W, u4.setCell ⟨gB, 2, none⟩ (.slice (some ⟨gg, 0, none⟩) (j + 1) cc) = W := ⟨_, rfl⟩
          have hk7 : Kx gB b0 wc w7 := by rw [← hw7]; exact hk.trans ((Kx.of_below hk4 (Nat.le_of_lt hgb0)).set 2 _)
          have hH7 : Held w7 gB 37 #[.int .i64 id, .slice Ap n cp, .slice (some ⟨gg, 0, none⟩) (j + 1) cc] := by rw [← hw7]; have h := hH4.set 2 (.slice (some ⟨gg, 0, none⟩) (j + 1) cc); simpa using h
          have hP7 : Held w7 wr.heap.size 42 #[.int .i64 k, .int .i64 (q : Int)] := by rw [← hw7]; exact hS.1
          have hO7 : w7.ownsRow b0 46 3 (.slice (some ⟨gg, 0, none⟩) (j + 1) cc) (j + 1) (valC (rdVs (ps.take j) xs) ++ [.int .u64 vu, .int .i64 vi, .string vs]) := by rw [← hw7]; exact hown4.kept (grownBy_set (World.grownBy.refl _ _) (p := ⟨gB, 2, none⟩) rfl _) (.inr (hH4.not_row (by decide) hown4).symm)
          rw [hw7]
          clear hw7 hS
          have q1 := hP7.cell 1
          go_wp2_with fail
          refine ⟨⟨j + 1, if c1 = q then some ⟨g1, o1, none⟩ else some ⟨g1, o1 + q, none⟩, n1 - q, c1 - q, _, by omega, by go_num, rfl, fun X h => ?_, hH7, by rw [HRN.out, valC_append]; exact hO7, hk7⟩, by simp [intOf]; omega⟩
          rw [HST.out, ← List.drop_drop]
          have h9 := HDR.out X h
          split
          · exact h9.addr (by omega) _
          · exact h9
        · skip
          go_simp
          refine (HCV.out f _ (hbrw.trans ((hb3.trans (hB1.mono hb3.size)).mono hbrw.size)) HTF2.out).mono ?_
          rintro e u2 ⟨rfl, hbv⟩
          have hB2 := hB1.trans (hbv.mono hB1.size)
          have hG := hG.below hbv hG.lt
          go_simp
          refine hK'.out _ _ ⟨hS.1.below hbv hS.1.lt, hS.2.trans (hbv.mono hS.2.size)⟩ (fun hS => ?_)
          clear hK' K'
          refine wpAnyH_ready (rs := [1, 12]) (by kernel_rfl) (by simp) ?_
          refine AllReadyH.cons rfl (fun K' hK' => ?_) (AllReadyH.cons rfl (fun K' hK' => ?_) AllReadyH.nil)
          · skip
            have q2 := hG.cell 2
            go_simp
            refine hK'.out _ _ hS (fun hS => ?_)
            clear hK' K'
            refine wpAnyH_ready (rs := [12]) (by kernel_rfl) (by simp) ?_
            refine AllReadyH.cons rfl (fun K' hK' => ?_) AllReadyH.nil
            go_simp
            obtain ⟨u3, hu3⟩ : ∃ W, u2.alloc (.cells #[.int .u64 vu, .int .i64 vi, .string vs] 46) = W := ⟨_, rfl⟩
            have hbl : Below u2.heap.size u2 u3 := by rw [← hu3]; exact (Below.refl _ _).alloc (Nat.le_refl _) _
            have hnew : ∀ j u, ([.int .u64 vu, .int .i64 vi, .string vs] : List Value)[j]? = some u → u3.cell? ((⟨u2.heap.size, 0, none⟩ : Addr).add j) = some u := by rw [← hu3]; exact World.news_of_block (cs := #[.int .u64 vu, .int .i64 vi, .string vs]) (t := 46) (fr := (0, 0)) (heap_alloc_new u2 _)
            have hB3 := hB2.trans (hbl.mono hB2.size)
            have hG := hG.below hbl hG.lt
            rw [hu3]
            clear hu3
            refine hK'.out _ _ ⟨hS.1.below hbl hS.1.lt, hS.2.trans (hbl.mono hS.2.size)⟩ (fun hS => ?_)
            clear hK' K'
            refine wpAnyH_ready (rs := [13]) (by kernel_rfl) (by simp) ?_
            refine AllReadyH.cons rfl (fun K' hK' => ?_) AllReadyH.nil
            have hb3r := hb3.trans (hB3.mono hb3.size)
            have hrow3 := HROW.out u3 hb3r
            have hz3 : b0 ≤ u3.heap.size := Nat.le_trans hszr hb3r.size
            refine step_append_lies _ (by rfl) _ _ _ (by rfl) b0 46 i0 (.agg #[.int .u64 0, .int .i64 0, .string ⟨#[]⟩]) 3 32 Tryd.underlying35 hi hz0 hz1 hz2 rfl (by decide) v j _ (by rfl) hrow3 ⟨u2.heap.size, 0, none⟩ 1 1 [.int .u64 vu, .int .i64 vi, .string vs] (by rfl) (by rfl) hnew (by simp [Value.oneCell']) (by omega) HA1.out.1 HA1.out.2 hz3 _ rfl ?_
            intro gg cc u4 hown4 hgrow hat hlt4
            have hne4 := hG.not_row (by decide) hrow3
            have hnp4 := hS.1.not_row (by decide) hrow3
            have hk4 : Below b0 wr u4 := (hb3r.mono hszr).grown hgrow hz3 (fun k hk => (hrow3.lt k hk).1)
            have hH4 := hG.kept hgrow hne4
            refine hK'.out _ _ ⟨hS.1.kept hgrow hnp4, hS.2.grown hgrow hS.2.size (fun k hk => by have h1 := (hrow3.lt k hk).1; omega)⟩ (fun hS => ?_)
            clear hK' K'
            refine wpAnyH_take (i := 14) (v := ?v14_115) rfl (by kernel_rfl) (by kernel_rfl) (by kernel_rfl) (fun _ _ _ h => h) (Or.inl ⟨by rfl, ?y14_115⟩) hS ?r14_115
            case y14_115 =>
              rintro W hH
              go_simp
              with_reducible rfl
            simp only [Act.put]
            try simp only [List.getElem_toArray, List.getElem_cons_succ, List.getElem_cons_zero]
            refine wpAnyH_ready (rs := [15]) (by kernel_rfl) (by simp) ?_
            refine AllReadyH.cons rfl (fun K' hK' => ?_) AllReadyH.nil
            have s2 := hH4.cell 2
            have hff := hH4.frozen
            go_simp
            refine hK'.out _ _ ⟨hS.1.far (by show wr.heap.size ≠ gB; omega) _, hS.2.setCell (p := ⟨gB, 2, none⟩) hgB _⟩ (fun hS => ?_)
            clear hK' K'
            refine wpAnyH_done (by kernel_rfl) ?_ _
            obtain ⟨w7, hw7⟩ : ∃ W, u4.setCell ⟨gB, 2, none⟩ (.slice (some ⟨gg, 0, none⟩) (j + 1) cc) = W := ⟨_, rfl⟩
            have hk7 : Kx gB b0 wc w7 := by rw [← hw7]; exact hk.trans ((Kx.of_below hk4 (Nat.le_of_lt hgb0)).set 2 _)
            have hH7 : Held w7 gB 37 #[.int .i64 id, .slice Ap n cp, .slice (some ⟨gg, 0, none⟩) (j + 1) cc] := by rw [← hw7]; have h := hH4.set 2 (.slice (some ⟨gg, 0, none⟩) (j + 1) cc); simpa using h
            have hP7 : Held w7 wr.heap.size 42 #[.int .i64 k, .int .i64 (q : Int)] := by rw [← hw7]; exact hS.1
            have hO7 : w7.ownsRow b0 46 3 (.slice (some ⟨gg, 0, none⟩) (j + 1) cc) (j + 1) (valC (rdVs (ps.take j) xs) ++ [.int .u64 vu, .int .i64 vi, .string vs]) := by rw [← hw7]; exact hown4.kept (grownBy_set (World.grownBy.refl _ _) (p := ⟨gB, 2, none⟩) rfl _) (.inr (hH4.not_row (by decide) hown4).symm)
            rw [hw7]
            clear hw7 hS
            have q1 := hP7.cell 1
            go_wp2_with fail
            refine ⟨⟨j + 1, if c1 = q then some ⟨g1, o1, none⟩ else some ⟨g1, o1 + q, none⟩, n1 - q, c1 - q, _, by omega, by go_num, rfl, fun X h => ?_, hH7, by rw [HRN.out, valC_append]; exact hO7, hk7⟩, by simp [intOf]; omega⟩
            rw [HST.out, ← List.drop_drop]
            have h9 := HDR.out X h
            split
            · exact h9.addr (by omega) _
            · exact h9
          · skip
            go_simp
            obtain ⟨u3, hu3⟩ : ∃ W, u2.alloc (.cells #[.int .u64 vu, .int .i64 vi, .string vs] 46) = W := ⟨_, rfl⟩
            have hbl : Below u2.heap.size u2 u3 := by rw [← hu3]; exact (Below.refl _ _).alloc (Nat.le_refl _) _
            have hnew : ∀ j u, ([.int .u64 vu, .int .i64 vi, .string vs] : List Value)[j]? = some u → u3.cell? ((⟨u2.heap.size, 0, none⟩ : Addr).add j) = some u := by rw [← hu3]; exact World.news_of_block (cs := #[.int .u64 vu, .int .i64 vi, .string vs]) (t := 46) (fr := (0, 0)) (heap_alloc_new u2 _)
            have hB3 := hB2.trans (hbl.mono hB2.size)
            have hG := hG.below hbl hG.lt
            rw [hu3]
            clear hu3
            refine hK'.out _ _ ⟨hS.1.below hbl hS.1.lt, hS.2.trans (hbl.mono hS.2.size)⟩ (fun hS => ?_)
            clear hK' K'
            refine wpAnyH_ready (rs := [1]) (by kernel_rfl) (by simp) ?_
            refine AllReadyH.cons rfl (fun K' hK' => ?_) AllReadyH.nil
            have q2 := hG.cell 2
            go_simp
            refine hK'.out _ _ hS (fun hS => ?_)
            clear hK' K'
            refine wpAnyH_ready (rs := [13]) (by kernel_rfl) (by simp) ?_
            refine AllReadyH.cons rfl (fun K' hK' => ?_) AllReadyH.nil
            have hb3r := hb3.trans (hB3.mono hb3.size)
            have hrow3 := HROW.out u3 hb3r
            have hz3 : b0 ≤ u3.heap.size := Nat.le_trans hszr hb3r.size
            refine step_append_lies _ (by rfl) _ _ _ (by rfl) b0 46 i0 (.agg #[.int .u64 0, .int .i64 0, .string ⟨#[]⟩]) 3 32 Tryd.underlying35 hi hz0 hz1 hz2 rfl (by decide) v j _ (by rfl) hrow3 ⟨u2.heap.size, 0, none⟩ 1 1 [.int .u64 vu, .int .i64 vi, .string vs] (by rfl) (by rfl) hnew (by simp [Value.oneCell']) (by omega) HA1.out.1 HA1.out.2 hz3 _ rfl ?_
            intro gg cc u4 hown4 hgrow hat hlt4
            have hne4 := hG.not_row (by decide) hrow3
            have hnp4 := hS.1.not_row (by decide) hrow3
            have hk4 : Below b0 wr u4 := (hb3r.mono hszr).grown hgrow hz3 (fun k hk => (hrow3.lt k hk).1)
            have hH4 := hG.kept hgrow hne4
            refine hK'.out _ _ ⟨hS.1.kept hgrow hnp4, hS.2.grown hgrow hS.2.size (fun k hk => by have h1 := (hrow3.lt k hk).1; omega)⟩ (fun hS => ?_)
            clear hK' K'
            refine wpAnyH_take (i := 14) (v := ?v14_116) rfl (by kernel_rfl) (by kernel_rfl) (by kernel_rfl) (fun _ _ _ h => h) (Or.inl ⟨by rfl, ?y14_116⟩) hS ?r14_116
            case y14_116 =>
              rintro W hH
              go_simp
              with_reducible rfl
            simp only [Act.put]
            try simp only [List.getElem_toArray, List.getElem_cons_succ, List.getElem_cons_zero]
            refine wpAnyH_ready (rs := [15]) (by kernel_rfl) (by simp) ?_
            refine AllReadyH.cons rfl (fun K' hK' => ?_) AllReadyH.nil
            have s2 := hH4.cell 2
            have hff := hH4.frozen
            go_simp
            refine hK'.out _ _ ⟨hS.1.far (by show wr.heap.size ≠ gB; omega) _, hS.2.setCell (p := ⟨gB, 2, none⟩) hgB _⟩ (fun hS => ?_)
            clear hK' K'
            refine wpAnyH_done (by kernel_rfl) ?_ _
            obtain ⟨w7, hw7⟩ : ∃ W, u4.setCell ⟨gB, 2, none⟩ (.slice (some ⟨gg, 0, none⟩) (j + 1) cc) = W := ⟨_, rfl⟩
            have hk7 : Kx gB b0 wc w7 := by rw [← hw7]; exact hk.trans ((Kx.of_below hk4 (Nat.le_of_lt hgb0)).set 2 _)
            have hH7 : Held w7 gB 37 #[.int .i64 id, .slice Ap n cp, .slice (some ⟨gg, 0, none⟩) (j + 1) cc] := by rw [← hw7]; have h := hH4.set 2 (.slice (some ⟨gg, 0, none⟩) (j + 1) cc); simpa using h
            have hP7 : Held w7 wr.heap.size 42 #[.int .i64 k, .int .i64 (q : Int)] := by rw [← hw7]; exact hS.1
            have hO7 : w7.ownsRow b0 46 3 (.slice (some ⟨gg, 0, none⟩) (j + 1) cc) (j + 1) (valC (rdVs (ps.take j) xs) ++ [.int .u64 vu, .int .i64 vi, .string vs]) := by rw [← hw7]; exact hown4.kept (grownBy_set (World.grownBy.refl _ _) (p := ⟨gB, 2, none⟩) rfl _) (.inr (hH4.not_row (by decide) hown4).symm)
            rw [hw7]
            clear hw7 hS
            have q1 := hP7.cell 1
            go_wp2_with fail
            refine ⟨⟨j + 1, if c1 = q then some ⟨g1, o1, none⟩ else some ⟨g1, o1 + q, none⟩, n1 - q, c1 - q, _, by omega, by go_num, rfl, fun X h => ?_, hH7, by rw [HRN.out, valC_append]; exact hO7, hk7⟩, by simp [intOf]; omega⟩
            rw [HST.out, ← List.drop_drop]
            have h9 := HDR.out X h
            split
            · exact h9.addr (by omega) _
            · exact h9
    · obtain rfl : j = n := by omega
      have ht : ps.take j = ps := List.take_of_length_le (by rw [HL.out]; exact Nat.le_refl _)
      rw [ht] at hrow
      have hR := hR2.below hb2r hR2.lt
      obtain ⟨Av, cv, rfl, hsv⟩ := SlV.of_own (by omega) hrow
      have hvl := VlI.of_cells hsv
      have htv := TyAt.of_own hrow
      have hvb : ∀ a, Av = some a → b0 ≤ a.block := fun a e => by
        subst e
        rcases hrow.2 with ⟨h, _⟩ | ⟨g3, _, _, h, h3, _⟩
        · cases h
        · injection h with h
          injection h with h
          rw [h]
          exact h3
      have hwF := hR2.lt
      have k0 := hH.cell 0
      have k1 := hH.cell 1
      have k2 := hH.cell 2
      have r0 := hR.cell 0
      have r1 := hR.cell 1
      have r2 := hR.cell 2
      have hff := hR.frozen
      have hF := set3 hR (.int .i64 id) (.slice Ap j cp) (.slice Av j cv)
      have hbF := set3_below hbrw (B := w.heap.size + 1) (Nat.le_succ _) (.int .i64 id) (.slice Ap j cp) (.slice Av j cv)
      have hpF := HPC.out
      have HNE := hne
      have hszF : wr.heap.size = (((wr.setCell ⟨w.heap.size + 1, 0, none⟩ (.int .i64 id)).setCell ⟨w.heap.size + 1, 1, none⟩ (.slice Ap j cp)).setCell ⟨w.heap.size + 1, 2, none⟩ (.slice Av j cv)).heap.size := by simp [World.setCell]
      have hpF2 := (hpF.kept (B' := wr.heap.size) (Nat.le_trans (Nat.le_of_eq HB0.out) hszr) (fun a e => hk.2 a.block (HNE a e).1 (by have h1 := hpF.lt hn1 a e; rw [HB0.out] at h1; exact h1))).kept (Nat.le_of_eq hszF) (fun a e => set3_other (W := wr) (k := a.block) (B := w.heap.size + 1) (a' := .int .i64 id) (b' := .slice Ap j cp) (c' := .slice Av j cv) (by have h1 := (HNE a e).2; have h2 := hR2.lt; omega))
      have hvF := hvl.kept (Nat.le_of_eq hszF) (fun a e => set3_other (W := wr) (k := a.block) (B := w.heap.size + 1) (a' := .int .i64 id) (b' := .slice Ap j cp) (c' := .slice Av j cv) (by have h1 := hvb a e; have h2 := hR2.lt; have h3 := hgB; have h4 := hgb0; omega))
      have hkp : ∀ a, Ap = some a → wr.heap[a.block]? = wc.heap[a.block]? := fun a e => hk.2 a.block (HNE a e).1 (by have h1 := hpF.lt hn1 a e; rw [HB0.out] at h1; exact h1)
      have htp2 := (HTC.out.same hkp).same (fun a e => set3_other (W := wr) (k := a.block) (B := w.heap.size + 1) (a' := .int .i64 id) (b' := .slice Ap j cp) (c' := .slice Av j cv) (by have h1 := (HNE a e).2; have h2 := hR2.lt; omega))
      have htv2 := htv.same (fun a e => set3_other (W := wr) (k := a.block) (B := w.heap.size + 1) (a' := .int .i64 id) (b' := .slice Ap j cp) (c' := .slice Av j cv) (by have h1 := hvb a e; have h2 := hR2.lt; have h3 := hgB; have h4 := hgb0; omega))
      have hpost : ∃ Ap' cp' Av' cv', (Ending.returned (.agg #[.int .i64 id, .slice Ap j cp, .slice Av j cv]) : Ending) = .returned (.agg #[.int .i64 id, .slice Ap' j cp', .slice Av' j cv']) ∧ PtI _ _ Ap' j cp' ps ∧ VlI _ _ Av' j cv' (rdVs ps xs) ∧ (TyAt _ 42 Ap' ∧ TyAt _ 46 Av') ∧ Below w.heap.size w _ := ⟨Ap, cp, Av, cv, rfl, hpF2, hvF, ⟨htp2, htv2⟩, hbF⟩
      have HPOST := Lib.hid hpost
      clear hpF hpF2 hvF hvl hsv hrow hszF hpost ht htp2 htv2 htv hkp
      go_wp2_with fail
      exact bodyPost_ret (results_cell_row Tryd.results24 _ _ (w.heap.size + 1) 37 _ (0, 0) _ rfl hF Tryd.underlying37 rfl (by kernel_rfl)) rfl HPOST.out
end Go.Proofs.YtnnknnaimabehaaDoor
