/- model.of; what model.all tells. -/
import Derived.Test.YtnnknnaimabehaaDoorModWord
import Derived.Test.YtnnknnaimabehaaDoorSeqR
import Derived.Test.YtnnknnaimabehaaDoorRound
import Derived.Test.YtnnknnaimabehaaDoorPrFromBytes
import Derived.Deep.Cut
namespace Go.Proofs.YtnnknnaimabehaaDoor
open Go.RowKit Go.Shelf
attribute [local go_sem] Oper.semAt_some
set_option linter.unusedVariables false
set_option maxRecDepth 100000

/-- The coder of a point. -/
def coderV (p : PtP) : Value := if p.kind = 3 then .iface 107 (.int .i64 p.words) else if p.kind = 2 then .iface 108 (.int .i64 p.words) else .iface 109 (.int .i64 p.words)
noncomputable def ptWords (p : PtP) (v : ValP) : Option (List Int) := if p.kind = 3 then textP p.words v else if p.kind = 2 then signedP p.words v else plainP p.words v
theorem of_any (p : PtP) (w : World) : Calls Tryd.prog 38 #[.agg #[.int .i64 p.kind, .int .i64 p.words]] w fun e w' => e = .returned (coderV p) ∧ Below w.heap.size w w' := by
  obtain ⟨k, m⟩ := p
  obtain ⟨c, hc⟩ : ∃ c, coderV ⟨k, m⟩ = c := ⟨_, rfl⟩
  have HC := Lib.hid hc
  rw [hc]
  clear hc
  by_cases h3 : k = 3
  · have t3 : (k == 3) = true := by simpa using h3
    go_in
    go_wp2
    go_ret
    exact ⟨by rw [← HC.out]; simp [coderV, h3], (Below.refl _ _).alloc (Nat.le_refl _) _⟩
  · have t3 : (k == 3) = false := by simpa using h3
    by_cases h2 : k = 2
    · have t2 : (k == 2) = true := by simpa using h2
      go_in
      go_wp2
      go_ret
      exact ⟨by rw [← HC.out]; simp [coderV, h2], (Below.refl _ _).alloc (Nat.le_refl _) _⟩
    · have t2 : (k == 2) = false := by simpa using h2
      go_in
      go_wp2
      go_ret
      exact ⟨by rw [← HC.out]; simp [coderV, h3, h2], (Below.refl _ _).alloc (Nat.le_refl _) _⟩
/-- A slice of values. -/
def VlI (W : World) (B : Nat) (A : Option Addr) (n c : Nat) (vs : List ValP) : Prop :=
  vs.length = n ∧ n ≤ c ∧ c ≤ maxLen ∧ (A = none → n = 0 ∧ c = 0) ∧ (0 < n → ∃ g off, A = some ⟨g, off, none⟩ ∧ g < B ∧ ∀ i v, vs[i]? = some v → W.cell? ⟨g, off + i * 3, none⟩ = some (.int .u64 v.u) ∧ W.cell? ⟨g, off + i * 3 + 1, none⟩ = some (.int .i64 v.i) ∧ W.cell? ⟨g, off + i * 3 + 2, none⟩ = some (.string v.s))
theorem VlI.up {w w' : World} {A : Option Addr} {n c : Nat} {vs : List ValP} (h : VlI w w.heap.size A n c vs) (hb : Below w.heap.size w w') : VlI w' w'.heap.size A n c vs := by
  obtain ⟨h1, h2, h3, h4, h5⟩ := h
  refine ⟨h1, h2, h3, h4, fun hn => ?_⟩
  obtain ⟨g, off, e, hg, hc⟩ := h5 hn
  refine ⟨g, off, e, Nat.lt_of_lt_of_le hg hb.size, fun i p hp => ?_⟩
  have := hc i p hp
  exact ⟨(hb.cell (p := ⟨g, off + i * 3, none⟩) hg).trans this.1, (hb.cell (p := ⟨g, off + i * 3 + 1, none⟩) hg).trans this.2.1, (hb.cell (p := ⟨g, off + i * 3 + 2, none⟩) hg).trans this.2.2⟩
/-- The method that a coder's words is. -/
theorem coder_words (p : PtP) (v : ValP) (hv : ValIn v) (f : FuncId) (x : Value) (w : World) (h : (p.kind = 3 ∧ f = 70) ∨ (p.kind ≠ 3 ∧ p.kind = 2 ∧ f = 84) ∨ (p.kind ≠ 3 ∧ p.kind ≠ 2 ∧ f = 95)) :
    Calls Tryd.prog f #[.int .i64 p.words, valV v] w (CPost w (ptWords p v)) := by
  rcases h with ⟨h1, rfl⟩ | ⟨h1, h2, rfl⟩ | ⟨h1, h2, rfl⟩
  · have e : ptWords p v = textP p.words v := by unfold ptWords; rw [if_pos h1]
    rw [e]
    exact text_words _ _ _
  · have e : ptWords p v = signedP p.words v := by unfold ptWords; rw [if_neg h1, if_pos h2]
    rw [e]
    exact signed_words _ _ hv _
  · have e : ptWords p v = plainP p.words v := by unfold ptWords; rw [if_neg h1, if_neg h2]
    rw [e]
    exact plain_words _ _ hv _
theorem na_text (m : Int) (W : World) : (nilAhead 266 107 (.int .i64 m) "kilowatt/model.words").run Tryd.prog W = .ok (some false) W := by kernel_rfl
theorem me_text (m : Int) (W : World) : (method 266 107 (.int .i64 m) "kilowatt/model.words").run Tryd.prog W = .ok (70, .int .i64 m) W := by kernel_rfl
theorem cf_text (xs : Array Value) (W : World) : (callFunc 70 xs).run Tryd.prog W = .ok (.enter 70 xs) W := enters_of Tryd.func70 (by kernel_rfl) rfl xs W
theorem na_signed (m : Int) (W : World) : (nilAhead 266 108 (.int .i64 m) "kilowatt/model.words").run Tryd.prog W = .ok (some false) W := by kernel_rfl
theorem me_signed (m : Int) (W : World) : (method 266 108 (.int .i64 m) "kilowatt/model.words").run Tryd.prog W = .ok (84, .int .i64 m) W := by kernel_rfl
theorem cf_signed (xs : Array Value) (W : World) : (callFunc 84 xs).run Tryd.prog W = .ok (.enter 84 xs) W := enters_of Tryd.func84 (by kernel_rfl) rfl xs W
theorem na_plain (m : Int) (W : World) : (nilAhead 266 109 (.int .i64 m) "kilowatt/model.words").run Tryd.prog W = .ok (some false) W := by kernel_rfl
theorem me_plain (m : Int) (W : World) : (method 266 109 (.int .i64 m) "kilowatt/model.words").run Tryd.prog W = .ok (95, .int .i64 m) W := by kernel_rfl
theorem cf_plain (xs : Array Value) (W : World) : (callFunc 95 xs).run Tryd.prog W = .ok (.enter 95 xs) W := enters_of Tryd.func95 (by kernel_rfl) rfl xs W
/-- What the iterator tells at k. -/
def TellR (ps : List PtP) (vs : List ValP) (k : Nat) (xs : Array Value) (X : World) : Prop := ∃ A n c p v, ps[k]? = some p ∧ vs[k]? = some v ∧ xs = #[.slice A n c, .bool (ptWords p v).isSome] ∧ ∀ l, ptWords p v = some l → SlI X X.heap.size .u16 A n c l
set_option maxHeartbeats 4000000 in
theorem all1_in (l Bs : Nat) (Kp : World → World → Prop) (A : Option Addr) (n c : Nat) (B : Option Addr) (d : Nat) (ps : List PtP) (vs : List ValP) (hvs : ∀ v ∈ vs, ValIn v) (J Jx : Nat → World → Prop)
    (hJa : ∀ s X X', Below X.heap.size X X' → J s X → J s X')
    (hY : ∀ k xs X, k < n → TellR ps vs k xs X → J k X → YieldAt Fence.wide 4 Tryd.prog l xs X fun e X' =>
      (e = .returned (.bool true) ∧ J (k + 1) X' ∧ Kp X X') ∨ (e = .returned (.bool false) ∧ Jx (k + 1) X'))
    (W : World) (hKr : ∀ X, Kp X X) (hKt : ∀ X Y Z, Kp X Y → Kp Y Z → Kp X Z) (hKb : ∀ X X', W.heap.size ≤ X.heap.size → Below X.heap.size X X' → Kp X X') (hKs : ∀ X X', Kp X X' → X.heap.size ≤ X'.heap.size) (hBs : ∀ X, Kp W X → X.cell? ⟨Bs, 1, none⟩ = some (.slice A n c) ∧ X.cell? ⟨Bs, 2, none⟩ = some (.slice B n d)) (hP : ∀ X, Kp W X → PtI X X.heap.size A n c ps) (hV : ∀ X, Kp W X → VlI X X.heap.size B n d vs) (h0 : J 0 W) :
    CallsIn Fence.wide 5 Tryd.prog 43 #[.func (.yield l) #[] #[], .pointer (some ⟨Bs, 0, none⟩)] W fun e W' => (∃ v, e = .returned v) ∧ ((∃ k, k = n ∧ J k W') ∨ (∃ k, k ≤ n ∧ Jx k W')) := by
  have HBS := Lib.hid hBs
  have HKB := Lib.hid hKb
  have HKT := Lib.hid hKt
  have HKS := Lib.hid hKs
  have HP := Lib.hid hP
  have HV := Lib.hid hV
  have HJA := Lib.hid hJa
  have HY := Lib.hid hY
  have HVS := Lib.hid hvs
  have hl : ps.length = n := (hP W (hKr W)).1
  have hcm : n ≤ maxLen := Nat.le_trans (hP W (hKr W)).2.1 (hP W (hKr W)).2.2.1
  unfold maxLen at hcm
  have hl2 : vs.length = n := (hV W (hKr W)).1
  have HL := Lib.hid hl
  have HL2 := Lib.hid hl2
  obtain ⟨b1, b2⟩ := hBs W (hKr W)
  clear hBs hP hV hJa hY hl hl2 hvs hKb hKt hKs
  refine callsIn_of_wp Tryd.func43 rfl trivial ?_ rfl
  simp only [Tryd.ntmps43, List.size_toArray, List.length_cons, List.length_nil, Nat.reduceAdd, Nat.reduceSub, Array.replicate_succ, Array.replicate_zero, List.push_toArray, List.append_toArray, List.nil_append, List.cons_append]
  gi_wp2
  gi_loopw [11] (fun i wr => ∃ k : Nat, k ≤ n ∧ i = .int .i64 k ∧ J k wr ∧ Kp W wr) (fun i _ => n - (intOf i).toNat)
  case atStart => exact ⟨0, Nat.zero_le _, rfl, h0, hKr W⟩
  case round =>
    obtain ⟨k, hk, rfl, hJs, hnx⟩ := hrel
    by_cases hlt : k < n
    · obtain ⟨⟨kd, m⟩, hp⟩ : ∃ p, ps[k]? = some p := ⟨_, List.getElem?_eq_getElem (by rw [HL.out]; exact hlt)⟩
      obtain ⟨⟨u, i, s⟩, hv⟩ : ∃ v, vs[k]? = some v := ⟨_, List.getElem?_eq_getElem (by rw [HL2.out]; exact hlt)⟩
      obtain ⟨g, off, rfl, hg, hc⟩ := (HP.out wr hnx).2.2.2.2 (by omega)
      obtain ⟨c0, c1⟩ := hc k _ hp
      obtain ⟨g', off', rfl, hg', hc'⟩ := (HV.out wr hnx).2.2.2.2 (by omega)
      obtain ⟨e0, e1, e2⟩ := hc' k _ hv
      have hVI := HVS.out _ (List.mem_of_getElem? hv)
      have HPK := Lib.hid hp
      have HVK := Lib.hid hv
      have HVI := Lib.hid hVI
      clear hc hc' hp hv hVI
      obtain ⟨w2, hw2⟩ : ∃ W, wr.alloc (.cells #[.int .i64 kd, .int .i64 m] 42) = W := ⟨_, rfl⟩
      have hb2 : Below wr.heap.size wr w2 := by rw [← hw2]; exact (Below.refl _ _).alloc (Nat.le_refl _) _
      have hsW := HKS.out _ _ hnx
      have hb2w := HKT.out _ _ _ hnx (HKB.out _ _ hsW hb2)
      have hsW2 := HKS.out _ _ hb2w
      have hK2 : Held w2 wr.heap.size 42 #[.int .i64 kd, .int .i64 m] := by rw [← hw2]; exact Held.new _ _ _
      have HPB := Lib.hid (fun (X : World) (h : Below w2.heap.size w2 X) => (And.intro ((hK2.below h hK2.lt).cell 0) ((hK2.below h hK2.lt).cell 1) : X.cell? ⟨wr.heap.size, 0, none⟩ = some (.int .i64 kd) ∧ X.cell? ⟨wr.heap.size, 1, none⟩ = some (.int .i64 m)))
      have HVB : Hid (∀ X, Below w2.heap.size w2 X → X.cell? ⟨g', off' + k * 3, none⟩ = some (.int .u64 u) ∧ X.cell? ⟨g', off' + k * 3 + 1, none⟩ = some (.int .i64 i) ∧ X.cell? ⟨g', off' + k * 3 + 2, none⟩ = some (.string s)) := Lib.hid (fun X h => by
        have hbX := hb2.trans (h.mono hb2.size)
        exact ⟨(hbX.cell (p := ⟨g', off' + k * 3, none⟩) hg').trans e0, (hbX.cell (p := ⟨g', off' + k * 3 + 1, none⟩) hg').trans e1, (hbX.cell (p := ⟨g', off' + k * 3 + 2, none⟩) hg').trans e2⟩)
      have HXB : Hid (∀ X, Below w2.heap.size w2 X → X.cell? ⟨Bs, 2, none⟩ = some (.slice (some ⟨g', off', none⟩) n d)) := Lib.hid (fun X h => (HBS.out X (HKT.out _ _ _ hb2w (HKB.out _ _ hsW2 h))).2)
      have hltI : (k : Int) < (n : Int) := by omega
      have HOF := Lib.hid (fun (X : World) => of_any ⟨kd, m⟩ X)
      obtain ⟨T, f, hcv, hna, hme, hcf, hTf⟩ : ∃ (T : TypeId) (f : FuncId), coderV ⟨kd, m⟩ = .iface T (.int .i64 m) ∧ (∀ W, (nilAhead 266 T (.int .i64 m) "kilowatt/model.words").run Tryd.prog W = .ok (some false) W) ∧ (∀ W, (method 266 T (.int .i64 m) "kilowatt/model.words").run Tryd.prog W = .ok (f, .int .i64 m) W) ∧ (∀ xs W, (callFunc f xs).run Tryd.prog W = .ok (.enter f xs) W) ∧ ((T = 107 ∧ kd = 3 ∧ f = 70) ∨ (T = 108 ∧ kd ≠ 3 ∧ kd = 2 ∧ f = 84) ∨ (T = 109 ∧ kd ≠ 3 ∧ kd ≠ 2 ∧ f = 95)) := by
        unfold coderV
        by_cases h3 : kd = 3
        · exact ⟨_, _, if_pos h3, na_text m, me_text m, cf_text, Or.inl ⟨rfl, h3, rfl⟩⟩
        · by_cases h2 : kd = 2
          · exact ⟨_, _, by rw [if_neg h3, if_pos h2], na_signed m, me_signed m, cf_signed, Or.inr (Or.inl ⟨rfl, h3, h2, rfl⟩)⟩
          · exact ⟨_, _, by rw [if_neg h3, if_neg h2], na_plain m, me_plain m, cf_plain, Or.inr (Or.inr ⟨rfl, h3, h2, rfl⟩)⟩
      rw [hcv] at HOF
      have HTF2 : Hid ((kd = 3 ∧ f = 70) ∨ (kd ≠ 3 ∧ kd = 2 ∧ f = 84) ∨ (kd ≠ 3 ∧ kd ≠ 2 ∧ f = 95)) := Lib.hid (by
        rcases hTf with ⟨_, h1, h2⟩ | ⟨_, h1, h2, h3⟩ | ⟨_, h1, h2, h3⟩
        · exact Or.inl ⟨h1, h2⟩
        · exact Or.inr (Or.inl ⟨h1, h2, h3⟩)
        · exact Or.inr (Or.inr ⟨h1, h2, h3⟩))
      clear hcv hTf
      gi_wp2
      clear hw2
      obtain ⟨w3, hw3⟩ : ∃ W : World, w2.drew = W := ⟨_, rfl⟩
      have hb3 : Below w2.heap.size w2 w3 := by rw [← hw3]; exact (Below.refl _ _).drew
      refine wpIn_wide.2 (wp_region_held (S := Below w2.heap.size w2) (by kernel_rfl) ?_)
      change wpAnyH _ _ _ _ _ _ _ _ w2.drew
      rw [hw3]
      clear hw3
      have hS : Below w2.heap.size w2 w3 := hb3
      refine wpAnyH_take (i := 0) (v := ?v0_1) rfl (by kernel_rfl) (by kernel_rfl) (by kernel_rfl) (fun _ _ _ h => h) (Or.inl ⟨by rfl, ?y0_1⟩) hS ?r0_1
      case y0_1 =>
        rintro W hH
        obtain ⟨hp0, hp1⟩ := HPB.out W hH
        obtain ⟨hv0, hv1, hv2⟩ := HVB.out W hH
        have hbx := HXB.out W hH
        go_simp
        with_reducible rfl
      simp only [Act.put]
      try simp only [List.getElem_toArray, List.getElem_cons_zero]
      try simp only [List.setIfInBounds_toArray, List.set_cons_succ, List.set_cons_zero]
      refine wpAnyH_take (i := 2) (v := ?v2_2) rfl (by kernel_rfl) (by kernel_rfl) (by kernel_rfl) (fun _ _ _ h => h) (Or.inl ⟨by rfl, ?y2_2⟩) hS ?r2_2
      case y2_2 =>
        rintro W hH
        go_simp
        with_reducible rfl
      simp only [Act.put]
      try simp only [List.getElem_toArray, List.getElem_cons_succ, List.getElem_cons_zero]
      try simp only [List.setIfInBounds_toArray, List.set_cons_succ, List.set_cons_zero]
      refine wpAnyH_take (i := 3) (v := ?v3_3) rfl (by kernel_rfl) (by kernel_rfl) (by kernel_rfl) (fun _ _ _ h => h) (Or.inl ⟨by rfl, ?y3_3⟩) hS ?r3_3
      case y3_3 =>
        rintro W hH
        obtain ⟨hp0, hp1⟩ := HPB.out W hH
        obtain ⟨hv0, hv1, hv2⟩ := HVB.out W hH
        have hbx := HXB.out W hH
        go_simp
        with_reducible rfl
      simp only [Act.put]
      try simp only [List.getElem_toArray, List.getElem_cons_succ, List.getElem_cons_zero]
      try simp only [List.setIfInBounds_toArray, List.set_cons_succ, List.set_cons_zero]
      refine wpAnyH_take (i := 4) (v := ?v4_4) rfl (by kernel_rfl) (by kernel_rfl) (by kernel_rfl) (fun _ _ _ h => h) (Or.inl ⟨by rfl, ?y4_4⟩) hS ?r4_4
      case y4_4 =>
        rintro W hH
        go_simp
        with_reducible rfl
      simp only [Act.put]
      try simp only [List.getElem_toArray, List.getElem_cons_succ, List.getElem_cons_zero]
      try simp only [List.setIfInBounds_toArray, List.set_cons_succ, List.set_cons_zero]
      refine wpAnyH_take (i := 5) (v := ?v5_5) rfl (by kernel_rfl) (by kernel_rfl) (by kernel_rfl) (fun _ _ _ h => h) (Or.inl ⟨by rfl, ?y5_5⟩) hS ?r5_5
      case y5_5 =>
        rintro W hH
        go_simp
        with_reducible rfl
      simp only [Act.put]
      try simp only [List.getElem_toArray, List.getElem_cons_succ, List.getElem_cons_zero]
      try simp only [List.setIfInBounds_toArray, List.set_cons_succ, List.set_cons_zero]
      refine wpAnyH_take (i := 6) (v := ?v6_6) rfl (by kernel_rfl) (by kernel_rfl) (by kernel_rfl) (fun _ _ _ h => h) (Or.inl ⟨by rfl, ?y6_6⟩) hS ?r6_6
      case y6_6 =>
        rintro W hH
        obtain ⟨hp0, hp1⟩ := HPB.out W hH
        obtain ⟨hv0, hv1, hv2⟩ := HVB.out W hH
        have hbx := HXB.out W hH
        go_simp
        with_reducible rfl
      simp only [Act.put]
      try simp only [List.getElem_toArray, List.getElem_cons_succ, List.getElem_cons_zero]
      try simp only [List.setIfInBounds_toArray, List.set_cons_succ, List.set_cons_zero]
      refine wpAnyH_ready (rs := [1]) (by kernel_rfl) (by simp) ?_
      refine AllReadyH.cons rfl (fun K' hK' => ?_) AllReadyH.nil
      go_simp
      refine (HOF.out _).mono ?_
      rintro e w' ⟨rfl, hb'⟩
      have hS1 := hS.trans (hb'.mono hS.size)
      go_simp
      refine hK'.out _ _ hS1 (fun hS => ?_)
      clear hK' K'
      refine wpAnyH_take (i := 7) (v := ?v7_7) rfl (by kernel_rfl) (by kernel_rfl) (by kernel_rfl) (fun _ _ _ h => h) (Or.inl ⟨by rfl, ?y7_7⟩) hS ?r7_7
      case y7_7 =>
        rintro W hH
        go_simp
        with_reducible rfl
      simp only [Act.put]
      try simp only [List.getElem_toArray, List.getElem_cons_succ, List.getElem_cons_zero]
      try simp only [List.setIfInBounds_toArray, List.set_cons_succ, List.set_cons_zero]
      refine wpAnyH_take (i := 8) (v := ?v8_8) rfl (by kernel_rfl) (by kernel_rfl) (by kernel_rfl) (fun _ _ _ h => h) (Or.inl ⟨by rfl, ?y8_8⟩) hS ?r8_8
      case y8_8 =>
        rintro W hH
        go_simp
        with_reducible rfl
      simp only [Act.put]
      try simp only [List.getElem_toArray, List.getElem_cons_succ, List.getElem_cons_zero]
      try simp only [List.setIfInBounds_toArray, List.set_cons_succ, List.set_cons_zero]
      refine wpAnyH_take (i := 9) (v := ?v9_9) rfl (by kernel_rfl) (by kernel_rfl) (by kernel_rfl) (fun _ _ _ h => h) (Or.inl ⟨by rfl, ?y9_9⟩) hS ?r9_9
      case y9_9 =>
        rintro W hH
        go_simp
        with_reducible rfl
      simp only [Act.put]
      try simp only [List.getElem_toArray, List.getElem_cons_succ, List.getElem_cons_zero]
      try simp only [List.setIfInBounds_toArray, List.set_cons_succ, List.set_cons_zero]
      refine wpAnyH_ready (rs := [10]) (by kernel_rfl) (by simp) ?_
      refine AllReadyH.cons rfl (fun K' hK' => ?_) AllReadyH.nil
      go_simp
      refine (coder_words ⟨kd, m⟩ ⟨u, i, s⟩ HVI.out f (.int .i64 0) _ HTF2.out).mono ?_
      rintro e w5 ⟨Ao, no, co, er, rfl, her, hso, hb5⟩
      have hS5 := hS.trans (hb5.mono hS.size)
      go_simp
      refine hK'.out _ _ hS5 (fun hS => ?_)
      clear hK' K'
      refine wpAnyH_take (i := 11) (v := ?v11_10) rfl (by kernel_rfl) (by kernel_rfl) (by kernel_rfl) (fun _ _ _ h => h) (Or.inl ⟨by rfl, ?y11_10⟩) hS ?r11_10
      case y11_10 =>
        rintro W hH
        go_simp
        with_reducible rfl
      simp only [Act.put]
      try simp only [List.getElem_toArray, List.getElem_cons_succ, List.getElem_cons_zero]
      try simp only [List.setIfInBounds_toArray, List.set_cons_succ, List.set_cons_zero]
      refine wpAnyH_take (i := 12) (v := ?v12_11) rfl (by kernel_rfl) (by kernel_rfl) (by kernel_rfl) (fun _ _ _ h => h) (Or.inl ⟨by rfl, ?y12_11⟩) hS ?r12_11
      case y12_11 =>
        rintro W hH
        go_simp
        with_reducible rfl
      simp only [Act.put]
      try simp only [List.getElem_toArray, List.getElem_cons_succ, List.getElem_cons_zero]
      try simp only [List.setIfInBounds_toArray, List.set_cons_succ, List.set_cons_zero]
      refine wpAnyH_take (i := 13) (v := ?v13_12) rfl (by kernel_rfl) (by kernel_rfl) (by kernel_rfl) (fun _ _ _ h => h) (Or.inl ⟨by rfl, ?y13_12⟩) hS ?r13_12
      case y13_12 =>
        rintro W hH
        go_simp
        with_reducible rfl
      simp only [Act.put]
      try simp only [List.getElem_toArray, List.getElem_cons_succ, List.getElem_cons_zero]
      try simp only [List.setIfInBounds_toArray, List.set_cons_succ, List.set_cons_zero]
      refine wpAnyH_take (i := 14) (v := ?v14_13) rfl (by kernel_rfl) (by kernel_rfl) (by kernel_rfl) (fun _ _ _ h => h) (Or.inl ⟨by rfl, ?y14_13⟩) hS ?r14_13
      case y14_13 =>
        rintro W hH
        go_simp
        with_reducible rfl
      simp only [Act.put]
      try simp only [List.getElem_toArray, List.getElem_cons_succ, List.getElem_cons_zero]
      try simp only [List.setIfInBounds_toArray, List.set_cons_succ, List.set_cons_zero]
      refine wpAnyH_take (i := 15) (v := ?v15_14) rfl (by kernel_rfl) (by kernel_rfl) (by kernel_rfl) (fun _ _ _ h => h) (Or.inl ⟨by rfl, ?y15_14⟩) hS ?r15_14
      case y15_14 =>
        rintro W hH
        go_simp
        with_reducible rfl
      simp only [Act.put]
      try simp only [List.getElem_toArray, List.getElem_cons_succ, List.getElem_cons_zero]
      try simp only [List.setIfInBounds_toArray, List.set_cons_succ, List.set_cons_zero]
      refine wpAnyH_done (by kernel_rfl) ?_ _
      have hb5r : Below wr.heap.size wr w5 := hb2.trans (hS.mono hb2.size)
      have hb5W := HKT.out _ _ _ hnx (HKB.out _ _ hsW hb5r)
      obtain ⟨isb, hisb⟩ : ∃ b, (ptWords ⟨kd, m⟩ ⟨u, i, s⟩).isSome = b := ⟨_, rfl⟩
      have heq : (er == 0) = isb := by
        rw [← hisb, Bool.eq_iff_iff, beq_iff_eq]
        exact her
      have hJ5 := HJA.out _ _ _ hb5r hJs
      obtain ⟨fn, tmps, assign, body, hy, hR⟩ := HY.out k #[.slice Ao no co, .bool isb] w5 hlt ⟨Ao, no, co, _, _, HPK.out, HVK.out, by rw [hisb], hso⟩ hJ5
      clear her hisb hso
      gi_wp2
      refine hR.mono ?_
      rintro e W3 (⟨rfl, hJ3, hk3⟩ | ⟨rfl, hJx3⟩)
      · gi_wp2
        go_roundw
        case rel => exact ⟨k + 1, by omega, by simp, hJ3, HKT.out _ _ _ hb5W hk3⟩
        case measure => simp [intOf]; omega
      · gi_wp2
        refine bodyPost_ret (results_none rfl _ _ _) rfl ?_
        exact ⟨⟨_, rfl⟩, .inr ⟨k + 1, by omega, hJx3⟩⟩
    · obtain rfl : k = n := by omega
      gi_wp2
      go_end0
      exact ⟨⟨_, rfl⟩, .inl ⟨_, rfl, hJs⟩⟩
end Go.Proofs.YtnnknnaimabehaaDoor
