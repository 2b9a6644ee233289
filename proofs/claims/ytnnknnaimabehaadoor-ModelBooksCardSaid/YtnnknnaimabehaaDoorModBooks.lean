/- ModelBooks, walked. -/
import Derived.Test.YtnnknnaimabehaaDoorModBooksP
import Derived.Test.YtnnknnaimabehaaDoorLedFoldsP
import Derived.Test.YtnnknnaimabehaaDoorGuards
import Derived.Test.YtnnknnaimabehaaDoorLexB
import Derived.LoopTactic
import Derived.Deep.QuietTactic
import Derived.BigQuiet
namespace Go.Proofs.YtnnknnaimabehaaDoor
open Go.RowKit Go.Shelf
attribute [local go_sem] Oper.semAt_some
set_option linter.unusedVariables false
set_option linter.unusedSimpArgs false
set_option maxRecDepth 100000
theorem wpList_bslice_at {P : Program} {a : Act} {w : World} {Q : Exit → Act → World → Prop} {ops : Array Oper} {rest : List Oper} {dst : Option Tmp} {t2 : TypeId} {pos : String} {after : Array Edge} {guard : Option (Nat × Bool)} (ty : TypeId) (len : Nat) (ps : Array (Nat × Operand)) (vs : Array (Nat × Value)) (v : Value) (W : World) (hw : Region.wanted ⟨dst, .buildSlice ty len ps, t2, pos, after, guard⟩ (yielded ops a.tmps) = true) (hv : (ps.map fun (i, x) => (i, a.eval x)) = vs) (h : (Instr.buildSlice ty len vs).run P w = .ok v W)
    (hk : wpList P ops Q rest (a.put dst v) W) : wpList P ops Q (⟨dst, .buildSlice ty len ps, t2, pos, after, guard⟩ :: rest) a w :=
  wpList_val hw v (by
    subst hv
    unfold execOp
    simp only [Sem.run_bind, h, Result.andThen_ok, Sem.run_pure]) hk
/-- What stands at the first loop's head. -/
def BksQ (es : List Ent) (s0 s1 s2 : ByteArray) (w : World) (base : Nat) (v8 v9 v10 : Value) (W : World) : Prop :=
  ∃ i : Nat, i ≤ es.length ∧ v10 = .int .i64 i ∧ v9 = .int .i64 (runB (es.take i)).seals ∧ Held W w.heap.size 48 #[.string s0, .string s1, .string s2] ∧ Held W (w.heap.size + 1) 69 (runB (es.take i)).arr ∧
    W.ownsRow base 63 42 v8 (takenE (es.take i)).length ((takenE (es.take i)).flatMap Ent.cells) ∧ Below w.heap.size w W ∧ base ≤ W.heap.size
theorem mown_but {g : Nat} {A B : World} {base : Nat} {e : TypeId} {size n : Nat} {v : Value} {xs : List Value} (h : But g A B) (hg : g < base) (hr : A.ownsRow base e size v n xs) : B.ownsRow base e size v n xs :=
  lown_same hr fun k hk => h.2 k (by have := (hr.lt k hk).1; omega) (by have := (hr.lt k hk).2; omega)
/-- Fine so far: the names. -/
def FnQ (s0 s1 s2 : ByteArray) (n : Nat) (w0 : World) (v14 v15 : Value) (W : World) : Prop :=
  ∃ (j : Nat) (fb : Bool), j ≤ 3 ∧ v15 = .int .i64 j ∧ v14 = .bool fb ∧ (fb = true ↔ n ≤ 64 ∧ ∀ (i : Nat) (s : ByteArray), i < j → [s0, s1, s2][i]? = some s → txtOk s 8) ∧ Below w0.heap.size w0 W
/-- Fine so far: the meters. -/
def FmQ (s0 s1 s2 : ByteArray) (ms : List Int) (w0 : World) (v14 v18 : Value) (W : World) : Prop :=
  ∃ (k : Nat) (fb : Bool), k ≤ ms.length ∧ v18 = .int .i64 k ∧ v14 = .bool fb ∧ (fb = true ↔ (ms.length ≤ 64 ∧ txtOk s0 8 ∧ txtOk s1 8 ∧ txtOk s2 8) ∧ ∀ m ∈ ms.take k, 0 ≤ m ∧ m ≤ 63) ∧ W = w0
def CntQ (n : Nat) (w0 : World) (v : Value) (W : World) : Prop := ∃ k : Nat, k ≤ n ∧ v = .int .i64 k ∧ Below w0.heap.size w0 W
theorem take_all {ms : List Int} {k : Nat} {m : Int} (h : ms[k]? = some m) (P : Int → Prop) : (∀ x ∈ ms.take (k + 1), P x) ↔ (∀ x ∈ ms.take k, P x) ∧ P m := by
  rw [List.take_add_one, h]
  simp only [Option.toList_some, List.mem_append, List.mem_singleton]
  constructor
  · exact fun q => ⟨fun x hx => q x (.inl hx), q m (.inr rfl)⟩
  · rintro ⟨q1, q2⟩ x (hx | rfl)
    · exact q1 x hx
    · exact q2
theorem names_all {s0 s1 s2 s : ByteArray} {j : Nat} (h : [s0, s1, s2][j]? = some s) : (∀ (i : Nat) (x : ByteArray), i < j + 1 → [s0, s1, s2][i]? = some x → txtOk x 8) ↔ (∀ (i : Nat) (x : ByteArray), i < j → [s0, s1, s2][i]? = some x → txtOk x 8) ∧ txtOk s 8 := by
  constructor
  · exact fun q => ⟨fun i x hi hx => q i x (by omega) hx, q j s (by omega) h⟩
  · rintro ⟨q1, q2⟩ i x hi hx
    by_cases hij : i = j
    · subst hij; rw [h] at hx; cases hx; exact q2
    · exact q1 i x (by omega) hx
theorem names_three {s0 s1 s2 : ByteArray} : (∀ (i : Nat) (x : ByteArray), i < 3 → [s0, s1, s2][i]? = some x → txtOk x 8) ↔ txtOk s0 8 ∧ txtOk s1 8 ∧ txtOk s2 8 := by
  constructor
  · exact fun q => ⟨q 0 s0 (by omega) rfl, q 1 s1 (by omega) rfl, q 2 s2 (by omega) rfl⟩
  · rintro ⟨q0, q1, q2⟩ i x hi hx
    have h3 : i = 0 ∨ i = 1 ∨ i = 2 := by omega
    rcases h3 with rfl | rfl | rfl <;> (injection hx with hx; subst hx; assumption)
theorem wrap32_in (a : Int) (h0 : 0 ≤ a) (h1 : a ≤ 100000) : IntKind.u32.wrap a = a := by simp only [IntKind.wrap_u32]; omega
theorem wrapu64_in (a : Int) (h0 : 0 ≤ a) (h1 : a ≤ 100000) : IntKind.u64.wrap a = a := by simp only [IntKind.wrap_u64]; omega
set_option maxHeartbeats 8000000 in
theorem books_any (es : List Ent) (A : Option Addr) (n c : Nat) (s0 s1 s2 : ByteArray) (Am : Option Addr) (nm cm : Nat) (ms : List Int) (hin : ∀ m ∈ ms, -9223372036854775808 ≤ m ∧ m ≤ 9223372036854775807) (w : World) (hl : EnI w A n es) (hM : SlI w w.heap.size .i64 Am nm cm ms) (hT : WordsT w) (hP : PtsT w) :
    Calls Tryd.prog 4 #[.slice A n c, .agg #[.string s0, .string s1, .string s2], .slice Am nm cm] w fun e w' => e = .returned (.bool true) ∧ Below w.heap.size w w' := by
  obtain ⟨hnl, hok, hat⟩ := hl
  subst hnl
  obtain rfl : nm = ms.length := hM.1.symm
  have HM := Lib.hid (fun (X : World) (h : Below w.heap.size w X) => hM.up h)
  have HAT := Lib.hid hat
  have HOK := Lib.hid hok
  have HT := Lib.hid hT
  have HP := Lib.hid hP
  clear hat hok hT hP hM
  obtain ⟨i0, hi0, hz0, hz1, hz2⟩ := info_parts info_entry
  have AE := Lib.hid alloc_new
  have OE := Lib.hid (show (Ent.none 0).arr.size = 42 from by rw [Ent.arr_size _ (by simp [Ent.none])])
  have ZC : (Value.agg (Ent.none 0).arr).cells.size = 42 := OE.out
  generalize (Ent.none 0).arr = ZE at AE OE hz0 ZC
  obtain ⟨t1, h1⟩ : ∃ t, decide ((40 : Int) < (es.length : Int)) = t := ⟨_, rfl⟩
  obtain ⟨t2, h2⟩ : ∃ t, decide ((40 : Int) < (s0.size : Int)) = t := ⟨_, rfl⟩
  obtain ⟨t3, h3⟩ : ∃ t, decide ((40 : Int) < (s1.size : Int)) = t := ⟨_, rfl⟩
  obtain ⟨t4, h4⟩ : ∃ t, decide ((40 : Int) < (s2.size : Int)) = t := ⟨_, rfl⟩
  obtain ⟨t5, h5⟩ : ∃ t, decide ((70 : Int) < (ms.length : Int)) = t := ⟨_, rfl⟩
  have b0 : Below w.heap.size w (w.alloc (.cells #[.string s0, .string s1, .string s2] 48)) := (Below.refl _ _).alloc (Nat.le_refl _) _
  cases t1
  case true => go_in; go_wp2_with fail; go_ret; exact ⟨rfl, b0⟩
  cases t2
  case true => go_in; go_wp2_with fail; go_ret; exact ⟨rfl, b0⟩
  cases t3
  case true => go_in; go_wp2_with fail; go_ret; exact ⟨rfl, b0⟩
  cases t4
  case true => go_in; go_wp2_with fail; go_ret; exact ⟨rfl, b0⟩
  cases t5
  case true => go_in; go_wp2_with fail; go_ret; exact ⟨rfl, b0⟩
  have hL40 : es.length ≤ 40 := by have := of_decide_eq_false h1; omega
  have hM70 : ms.length ≤ 70 := by have := of_decide_eq_false h5; omega
  go_in
  go_upto_region 4 with ((with_reducible refine wpList_build_at (dst := some 49) 69 #[] #[] _ (by kernel_rfl) (by kernel_rfl) (build_book _) ?_); simp only [Act.put, List.setIfInBounds_toArray, List.set_cons_succ, List.set_cons_zero])
  have hx0 : Held (w.alloc (.cells #[.string s0, .string s1, .string s2] 48)) w.heap.size 48 #[.string s0, .string s1, .string s2] := Held.new w _ _
  have hz0' : (w.alloc (.cells #[.string s0, .string s1, .string s2] 48)).heap.size = w.heap.size + 1 := by simp
  generalize w.alloc (.cells #[.string s0, .string s1, .string s2] 48) = wn at b0 hx0 hz0' ⊢
  have hb1 : Held (wn.alloc (.cells Bk.zero.arr 69)) wn.heap.size 69 Bk.zero.arr := Held.new wn _ _
  have hx1 := hx0.alloc (.cells Bk.zero.arr 69)
  have b1 : Below w.heap.size w (wn.alloc (.cells Bk.zero.arr 69)) := b0.alloc b0.size _
  rw [hz0'] at hb1
  generalize wn.alloc (.cells Bk.zero.arr 69) = w1 at hb1 hx1 b1 ⊢
  have hgb := hb1.lt
  have H0 := Lib.hid (And.intro hx1 (And.intro hb1 b1))
  clear hx0 hx1 hb1 b0 b1 hz0'
  go_wp2_with fail
  go_loopw [8, 9, 10] (BksQ es s0 s1 s2 w w1.heap.size) (fun _ _ v _ => es.length - (intOf v).toNat)
  case atStart => exact ⟨0, Nat.zero_le _, rfl, rfl, H0.out.1, by rw [List.take_zero]; exact H0.out.2.1, by rw [List.take_zero]; exact World.ownsRow_nil _ _ _ _, H0.out.2.2, Nat.le_refl _⟩
  case round =>
    obtain ⟨i, hi, rfl, rfl, hX, hB, hrow, hbl, hbw⟩ := hrel
    obtain ⟨hAd, hRB, hTL, hMN⟩ := taken_added es HOK.out i hi
    by_cases hlt : i < es.length
    · obtain ⟨e, he⟩ : ∃ e, es[i]? = some e := ⟨_, List.getElem?_eq_getElem hlt⟩
      obtain ⟨g, o, rfl, hrg⟩ := HAT.out i e he
      have hre := rangeAt_up hrg hbl
      have heo := HOK.out e (List.mem_of_getElem? he)
      have hel := heo.2.2.2.2.2.2.2.2.2.2.1
      have hbk := runB_ok_take es HOK.out i hi
      have HTS := Lib.hid (taken_step es i e HOK.out he)
      have HRT := Lib.hid (runB_take es i e he)
      have HSS := Lib.hid (fun h => seals_step (K := i) (b := runB (es.take i)) e h)
      have HSM := Lib.hid (add_same (runB (es.take i)) e)
      have IE : Hid ((Tryd.prog.info? 63).map (·.size) = some e.cells.length) := Lib.hid (by rw [ent_size e hel]; simp [Ent.arr])
      have HEL := Lib.hid hel
      obtain ⟨R, hR⟩ : ∃ R, (addP (runB (es.take i)) e).2 = R := ⟨_, rfl⟩
      have HADD : Hid (∀ V : World, Held V (w.heap.size + 1) 69 (runB (es.take i)).arr → WordsT V → Calls Tryd.prog 16 #[.pointer (some ⟨w.heap.size + 1, 0, none⟩), .agg e.arr] V fun e' V' => e' = .returned (.int .i64 R) ∧ Held V' (w.heap.size + 1) 69 (addP (runB (es.take i)) e).1.arr ∧ But (w.heap.size + 1) V V') := Lib.hid (fun V hV hW => by
        have := badd_any i (by omega) (by omega) _ hbk e heo (w.heap.size + 1) V hV hW
        unfold AddPost at this
        rw [hR] at this
        exact this)
      rw [hR] at HTS HSS HSM
      have hltI : (i : Int) < (es.length : Int) := by omega
      have hbz := hbl.size
      obtain ⟨A8, c8, rfl, he8⟩ := EnI.of_own hAd.1 rfl hrow
      clear he8
      go_upto_region 10 with (first
        | ((with_reducible refine wpList_load_at (dst := some 61) 63 (.tmp 60) g (o + i * 42) e.cells _ (by kernel_rfl) (by kernel_rfl) hre Tryd.underlying63 (by kernel_rfl) IE.out ?_); simp only [Act.put, List.setIfInBounds_toArray, List.set_cons_succ, List.set_cons_zero])
        | (go_at_call 16; refine (HADD.out _ hB (HT.out.up hbl)).mono ?_; rintro e' V3 ⟨rfl, hB3, hc3⟩))
      have hX3 := hc3.held (by omega) hX
      have hr3 := mown_but hc3 (by omega) hrow
      have hb3 := hbl.trans (hc3.below (by omega) hbz)
      have hz3 := hc3.size
      rw [← HRT.out] at hB3
      have hre3 := rangeAt_up hrg hb3
      have hk3 : V3.cell? ⟨g, o + i * 42, none⟩ = some (.int .i64 e.kind) := by have := hre3 0 (.int .i64 e.kind) (by simp [Ent.cells]); simpa using this
      have HROK : Hid (∀ V : World, Below V3.heap.size V3 V → V.cell? ⟨g, o + i * 42, none⟩ = some (.int .i64 e.kind)) := Lib.hid (fun V hV => by rw [hV.cell (World.block_lt_of_cell? _ _ hk3)]; exact hk3)
      clear hc3 hX hB hrow
      by_cases hR0 : R = 0
      · subst hR0
        have hts := HTS.out
        rw [if_pos rfl] at hts
        have hss := HSS.out rfl
        rw [← HRT.out] at hss
        have SL := Lib.hid (fun W : World => (show (Instr.buildSlice 53 1 #[(0, .agg e.cells.toArray)]).run Tryd.prog W = .ok (.slice (some ⟨W.heap.size, 0, none⟩) 1 1) (W.alloc (.cells e.arr 63)) from slice_one e.arr (by rw [Ent.arr_size _ HEL.out]) W))
        have hsl : SlV (V3.alloc (.cells e.arr 63)) (V3.alloc (.cells e.arr 63)).heap.size (some ⟨V3.heap.size, 0, none⟩) 1 1 42 e.cells := SlV.of_lit rfl (by rw [Ent.cells_len _ HEL.out]) (by omega)
        have HB1 := Lib.hid (show (takenE (es.take i)).length + 1 ≤ maxLen ∧ ((takenE (es.take i)).length + 1) * 112 ≤ 140737488355328 by unfold maxLen; omega)
        have H1C : Hid (∀ u ∈ e.cells, u.oneCell' = true) := Lib.hid (fun u hu => by
          have := ent_one e
          rw [Array.all_eq_true_iff_forall_mem] at this
          exact this u (by simpa [Ent.arr] using hu))
        have hbase : w1.heap.size ≤ (V3.alloc (.cells e.arr 63)).heap.size := by simp; omega
        have h8B : Held (V3.alloc (.cells e.arr 63)) (w.heap.size + 1) 69 (runB (es.take (i + 1))).arr := hB3.alloc _
        have h8X := hX3.alloc (.cells e.arr 63)
        have h8b : Below w.heap.size w (V3.alloc (.cells e.arr 63)) := hb3.alloc hb3.size _
        have hr8 := hr3.alloc (.cells e.arr 63)
        go_upto_region 12 with (first
          | ((with_reducible refine wpList_load_at (dst := some 69) 63 (.tmp 68) g (o + i * 42) e.cells _ (by kernel_rfl) (by kernel_rfl) hre3 Tryd.underlying63 (by kernel_rfl) IE.out ?_); simp only [Act.put, List.setIfInBounds_toArray, List.set_cons_succ, List.set_cons_zero])
          | ((with_reducible refine wpList_bslice_at (dst := some 70) 53 1 _ _ _ _ (by kernel_rfl) (by kernel_rfl) (SL.out _) ?_); simp only [Act.put, List.setIfInBounds_toArray, List.set_cons_succ, List.set_cons_zero])
          | ((with_reducible refine at_append ?_); refine wpList_append_slv _ rfl (.tmp 65) (.tmp 70) 53 rfl w1.heap.size 63 i0 (.agg ZE) 42 112 Tryd.underlying53 hi0 hz0 hz1 hz2 ZC (by omega) _ _ _ rfl hr8 _ (some ⟨V3.heap.size, 0, none⟩) 1 1 e.cells rfl hsl H1C.out HB1.out.1 HB1.out.2 hbase ?_; intro v9 W9 o9 gr9 _))
        have h9B := h8B.kept gr9 (fun e' => by have := (hr8.lt _ e'.symm).1; omega)
        have h9X := h8X.kept gr9 (fun e' => by have := (hr8.lt _ e'.symm).1; omega)
        have h9b := h8b.grown gr9 (by have := hb3.size; simp; omega) (fun k hk => by have := (hr8.lt k hk).1; omega)
        have h9z : w1.heap.size ≤ W9.heap.size := Nat.le_trans hbase gr9.size
        have ho9 : W9.ownsRow w1.heap.size 63 42 v9 (takenE (es.take (i + 1))).length ((takenE (es.take (i + 1))).flatMap Ent.cells) := by
          rw [hts, List.length_append, List.flatMap_append]
          simpa using o9
        have hk9 := rangeAt_up hrg h9b 0 (.int .i64 e.kind) (by simp [Ent.cells])
        rw [Nat.add_zero] at hk9
        have HRES := Lib.hid (And.intro hss (And.intro h9X (And.intro h9B (And.intro ho9 (And.intro h9b h9z)))))
        have hwr : IntKind.i64.wrap ((runB (es.take i)).seals + 1) = (runB (es.take i)).seals + 1 := by
          obtain ⟨h1, h2⟩ := hbk.e
          simp only [IntKind.wrap_i64]; omega
        clear hss ho9 h9B h9X h9b h9z hts o9 gr9 hr8 h8b h8X h8B hsl hk3
        by_cases hk5 : e.kind = 5
        · rw [hk5] at hk9
          go_wp2_with fail
          go_roundw
          case rel => exact ⟨i + 1, by omega, by go_num, by rw [HRES.out.1, if_pos hk5], HRES.out.2⟩
          case measure => simp [intOf]; omega
        · have hk5b : (e.kind == 5) = false := by simp [hk5]
          go_wp2_with fail
          go_roundw
          case rel => exact ⟨i + 1, by omega, by go_num, by rw [HRES.out.1, if_neg hk5], HRES.out.2⟩
          case measure => simp [intOf]; omega
      · have hts := HTS.out
        rw [if_neg hR0] at hts
        have hsm := HSM.out hR0
        rw [← HRT.out] at hsm
        have hRb : (R == 0) = false := by simp [hR0]
        go_wp2_with fail
        go_roundw
        case rel => exact ⟨i + 1, by omega, by go_num, by rw [hsm], hX3, hB3, by rw [hts]; exact hr3, hb3, by omega⟩
        case measure => simp [intOf]; omega
    · obtain rfl : i = es.length := by omega
      have hltI : decide ((es.length : Int) < (es.length : Int)) = false := by simp
      have hbk0 := runB_ok es HOK.out
      rw [List.take_length] at hB hrow hRB hTL hMN hAd ⊢
      obtain ⟨A8, c8, rfl, hE8⟩ := EnI.of_own hAd.1 rfl hrow
      obtain ⟨L, hL⟩ : ∃ L, takenE es = L := ⟨_, rfl⟩
      rw [hL] at hRB hTL hMN hAd hE8 ⊢
      clear hrow hL
      obtain ⟨b, hb⟩ : ∃ b, runB es = b := ⟨_, rfl⟩
      rw [hb] at hB hRB hMN hbk0 ⊢
      have hbk : b.ok 60 := hbk0.mono (by omega)
      clear hbk0 hb H0 HAT
      have hXc := hX
      have n0 := hX.cell 0
      have n1 := hX.cell 1
      have n2 := hX.cell 2
      simp only [List.getElem?_toArray, List.getElem?_cons_zero, List.getElem?_cons_succ] at n0 n1 n2
      have HOF := Lib.hid (bof_any 60 (by omega) b hbk (.pointer (some ⟨w.heap.size + 1, 0, none⟩)) s0 s1 s2 Am ms.length cm ms hin wr (.inr ⟨_, rfl, hB⟩) (HP.out.up hbl) (HM.out wr hbl))
      have HBK := Lib.hid hbk
      have HAD := Lib.hid hAd
      have HRB := Lib.hid hRB
      have HMN := Lib.hid hMN
      have HX := Lib.hid hX
      have HE8 := Lib.hid hE8
      have HBL := Lib.hid hbl
      clear hB hRB hMN hbk hAd hX hXc hE8 hbl
      go_wp2_with fail
      refine HOF.out.mono ?_
      rintro e w3 ⟨hy, hno, b3⟩
      obtain ⟨X, E, rfl, hyX, hnX⟩ : ∃ (X : Value) (E : Int), e = .returned (.tuple #[X, .int .i64 E]) ∧ (ofB b s0 s1 s2 ms → E = 0 ∧ ∃ A c, X = .slice A (ms.length + 1) c ∧ BkI w3 w3.heap.size A (ms.length + 1) c (ofP b s0 s1 s2 ms)) ∧ (¬ ofB b s0 s1 s2 ms → E = 260 ∧ X = .slice none 0 0) := by
        by_cases h : ofB b s0 s1 s2 ms
        · obtain ⟨A, c, rfl, hk⟩ := hy h
          exact ⟨_, 0, rfl, fun _ => ⟨rfl, A, c, rfl, hk⟩, fun h' => absurd h h'⟩
        · have := hno h
          subst this
          exact ⟨_, 260, rfl, fun h' => absurd h' h, fun _ => ⟨rfl, rfl⟩⟩
      have HY := Lib.hid hyX
      have HN := Lib.hid hnX
      have HX3 := Lib.hid (HX.out.below b3 HX.out.lt)
      have HB3 := Lib.hid (HBL.out.trans (b3.mono HBL.out.size))
      have HE3 := Lib.hid (HE8.out.up b3)
      clear hy hno b3 hyX hnX n0 n1 n2 HOF HX HBL HE8
      obtain ⟨t6, h6⟩ : ∃ t, decide ((ms.length : Int) ≤ 64) = t := ⟨_, rfl⟩
      have H6 : Hid (t6 = true ↔ ms.length ≤ 64) := Lib.hid (by rw [← h6]; simp; omega)
      go_wp2_with fail
      go_loopw [14, 15, 16, 17] (fun a c _ _ W => FnQ s0 s1 s2 ms.length w3 a c W) (fun _ v _ _ _ => 3 - (intOf v).toNat)
      case atStart => exact ⟨0, t6, by omega, rfl, rfl, ⟨fun h => ⟨H6.out.1 h, fun i s hi => by omega⟩, fun h => H6.out.2 h.1⟩, Below.refl _ _⟩
      case round =>
        obtain ⟨j, fb, hj, rfl, rfl, hfb, hbw3⟩ := hrel
        by_cases hj3 : j < 3
        · obtain ⟨s, hs⟩ : ∃ s, [s0, s1, s2][j]? = some s := ⟨_, List.getElem?_eq_getElem (by simpa using hj3)⟩
          have hXr := HX3.out.below hbw3 HX3.out.lt
          have hcj : wr.cell? ⟨w.heap.size, j, none⟩ = some (.string s) := by
            have := hXr.cell j
            rw [this]
            have hj' : j = 0 ∨ j = 1 ∨ j = 2 := by omega
            rcases hj' with rfl | rfl | rfl <;> (injection hs with hs; subst hs; rfl)
          have hjI : (j : Int) < 3 := by omega
          have HNM := Lib.hid (names_all hs)
          have HBW := Lib.hid hbw3
          clear hbw3 hXr hs
          cases fb
          · have HF0 := Lib.hid (fun h => absurd (hfb.2 h) (by decide) : _ → False)
            clear hfb
            go_wp2_with fail
            refine (reftext_any s 8 _).mono ?_
            rintro e w4 (⟨hok, u, k, hk, rfl, hown, hb4⟩ | ⟨hok, rfl, hb4⟩)
            · have HB4 := Lib.hid (HBW.out.trans (hb4.mono HBW.out.size))
              clear hk hown hb4
              go_wp2_with fail
              go_roundw
              case rel => exact ⟨j + 1, false, by omega, by go_num, rfl, ⟨(fun h => by cases h), fun h => absurd ⟨h.1, (HNM.out.1 h.2).1⟩ HF0.out⟩, HB4.out⟩
              case measure => simp [intOf]; omega
            · have HB4 := Lib.hid (HBW.out.trans (hb4.mono HBW.out.size))
              clear hb4
              go_wp2_with fail
              go_roundw
              case rel => exact ⟨j + 1, false, by omega, by go_num, rfl, ⟨(fun h => by cases h), fun h => absurd ⟨h.1, (HNM.out.1 h.2).1⟩ HF0.out⟩, HB4.out⟩
              case measure => simp [intOf]; omega
          · have HF1 := Lib.hid (hfb.1 rfl)
            clear hfb
            go_wp2_with fail
            refine (reftext_any s 8 _).mono ?_
            rintro e w4 (⟨hok, u, k, hk, rfl, hown, hb4⟩ | ⟨hok, rfl, hb4⟩)
            · have HB4 := Lib.hid (HBW.out.trans (hb4.mono HBW.out.size))
              have HK := Lib.hid hok
              clear hk hown hb4 hok
              go_wp2_with fail
              go_roundw
              case rel => exact ⟨j + 1, true, by omega, by go_num, rfl, ⟨fun _ => ⟨HF1.out.1, HNM.out.2 ⟨HF1.out.2, HK.out⟩⟩, fun _ => rfl⟩, HB4.out⟩
              case measure => simp [intOf]; omega
            · have HB4 := Lib.hid (HBW.out.trans (hb4.mono HBW.out.size))
              have HK := Lib.hid hok
              clear hb4 hok
              go_wp2_with fail
              go_roundw
              case rel => exact ⟨j + 1, false, by omega, by go_num, rfl, ⟨(fun h => by cases h), fun h => absurd (HNM.out.1 h.2).2 HK.out⟩, HB4.out⟩
              case measure => simp [intOf]; omega
        · obtain rfl : j = 3 := by omega
          rw [names_three] at hfb
          have HFB := Lib.hid hfb
          have HX5 := Lib.hid (HX3.out.below hbw3 HX3.out.lt)
          have HB5 := Lib.hid (HB3.out.trans (hbw3.mono HB3.out.size))
          have HE5 := Lib.hid (HE3.out.up hbw3)
          have HY5 : Hid (ofB b s0 s1 s2 ms → E = 0 ∧ ∃ A c, X = .slice A (ms.length + 1) c ∧ BkI wr wr.heap.size A (ms.length + 1) c (ofP b s0 s1 s2 ms)) := Lib.hid (fun h => by
            obtain ⟨h1, A, c, h2, h3⟩ := HY.out h
            exact ⟨h1, A, c, h2, h3.up hbw3⟩)
          clear hfb hbw3 HX3 HB3 HE3 HY
          obtain ⟨w5, rfl⟩ : ∃ Y : World, Y = wr := ⟨_, rfl⟩
          go_wp2_with fail
          go_loopw [14, 18] (FmQ s0 s1 s2 ms w5) (fun _ v _ => ms.length - (intOf v).toNat)
          case atStart => exact ⟨0, fb, Nat.zero_le _, rfl, rfl, ⟨fun h => ⟨HFB.out.1 h, fun m hm => by simp at hm⟩, fun h => HFB.out.2 h.1⟩, rfl⟩
          case round =>
            clear HFB
            obtain ⟨k, fb, hk, rfl, rfl, hfb, rfl⟩ := hrel
            by_cases hlt : k < ms.length
            · obtain ⟨gm, om, m, rfl, _, hm, hcm⟩ := (HM.out _ HB5.out).2.2.2.2.at_ hlt
              have hltI : (k : Int) < (ms.length : Int) := by omega
              have HTA := Lib.hid (take_all hm (fun m => 0 ≤ m ∧ m ≤ 63))
              clear hm
              cases fb
              · have HF0 := Lib.hid (fun h => absurd (hfb.2 h) (by decide) : _ → False)
                clear hfb
                go_wp2_with fail
                go_roundw
                case rel => exact ⟨k + 1, false, by omega, by go_num, rfl, ⟨(fun h => by cases h), fun h => absurd ⟨h.1, (HTA.out.1 h.2).1⟩ HF0.out⟩, rfl⟩
                case measure => simp [intOf]; omega
              · have HF1 := Lib.hid (hfb.1 rfl)
                clear hfb
                by_cases hm0 : 0 ≤ m
                · by_cases hm1 : m ≤ 63
                  · go_wp2_with fail
                    go_roundw
                    case rel => exact ⟨k + 1, true, by omega, by go_num, rfl, ⟨fun _ => ⟨HF1.out.1, HTA.out.2 ⟨HF1.out.2, hm0, hm1⟩⟩, fun _ => rfl⟩, rfl⟩
                    case measure => simp [intOf]; omega
                  · have hm1b : decide (m ≤ 63) = false := decide_eq_false hm1
                    go_wp2_with fail
                    go_roundw
                    case rel => exact ⟨k + 1, false, by omega, by go_num, rfl, ⟨(fun h => by cases h), fun h => absurd (HTA.out.1 h.2).2.2 hm1⟩, rfl⟩
                    case measure => simp [intOf]; omega
                · have hm0b : decide (0 ≤ m) = false := decide_eq_false hm0
                  go_wp2_with fail
                  go_roundw
                  case rel => exact ⟨k + 1, false, by omega, by go_num, rfl, ⟨(fun h => by cases h), fun h => absurd (HTA.out.1 h.2).2.1 hm0⟩, rfl⟩
                  case measure => simp [intOf]; omega
            · obtain rfl : k = ms.length := by omega
              have hltI : decide ((ms.length : Int) < (ms.length : Int)) = false := by simp
              rw [List.take_length] at hfb
              have hfo : fb = true ↔ ofB b s0 s1 s2 ms := by
                rw [hfb]
                unfold ofB
                rw [first_some]
                exact ⟨fun h => ⟨h.1.1, h.1.2, h.2⟩, fun h => ⟨⟨h.1, h.2.1⟩, h.2.2⟩⟩
              clear hfb
              cases fb
              case false =>
                obtain ⟨rfl, rfl⟩ := HN.out (fun h => absurd (hfo.2 h) (by decide))
                clear hfo
                go_wp2_with fail
                go_ret
                exact ⟨rfl, HB5.out⟩
              case true =>
                have hob := hfo.1 rfl
                obtain ⟨rfl, A3, c3, rfl, hk3⟩ := HY5.out hob
                obtain ⟨gy, oy, rfl, _, hat⟩ := hk3.2.2.2.2 (by omega)
                obtain ⟨Ap, np, cp, Av, nv, cv, y0, y1, y2, _, hv, _⟩ := hat 0 ⟨1, P5, firstV b s0 s1 s2⟩ rfl
                obtain rfl : nv = 5 := by rw [← hv.1]; rfl
                obtain ⟨gv, ov, rfl, _, hvat⟩ := hv.2.2.2.2 (by omega)
                have v0 := (hvat 0 ⟨0, 0, s0⟩ rfl).2.2
                have v2 := (hvat 2 ⟨0, 0, s2⟩ rfl).2.2
                have v3 := (hvat 3 (lowP b.many) rfl).1
                have v4 := (hvat 4 (lowP b.seals) rfl).1
                simp only [Nat.zero_mul, Nat.add_zero] at y0 y1 y2 v0
                have hm := HBK.out.m
                have he := HBK.out.e
                simp only [lowP] at v3 v4
                rw [wrap32_in _ hm.1 (by omega), HMN.out] at v3
                rw [wrap32_in _ he.1 (by omega)] at v4
                obtain ⟨se, hse⟩ : ∃ se, b.seals = se := ⟨_, rfl⟩
                rw [hse] at v4 he ⊢
                have u3 : IntKind.u64.wrap (L.length : Int) = (L.length : Int) := wrapu64_in _ (by omega) (by omega)
                have u4 : IntKind.u64.wrap se = se := wrapu64_in _ he.1 (by omega)
                have n0 := HX5.out.cell 0
                have n2 := HX5.out.cell 2
                simp only [List.getElem?_toArray, List.getElem?_cons_zero, List.getElem?_cons_succ] at n0 n2
                have hlen1 : IntKind.i64.wrap ((ms.length : Int) + 1) = (ms.length : Int) + 1 := by simp only [IntKind.wrap_i64]; omega
                have hl64 := hob.1
                have hms := hob.2.2
                have HMS := Lib.hid hms
                have HK3 := Lib.hid hk3
                clear hat hvat hv hk3 hms hob hfo HY5 hm he hse HN
                go_wp2_with fail
                go_quiet (fail)
                obtain ⟨w6, hw6⟩ : ∃ Y : World, wr.drewN nq = Y := ⟨_, rfl⟩
                have hb6 : Below wr.heap.size wr w6 := by rw [← hw6]; exact below_drewN (Below.refl _ _) _
                have HB5 := Lib.hid (HB5.out.trans (hb6.mono HB5.out.size))
                have HE5 := Lib.hid (HE5.out.up hb6)
                obtain ⟨gy2, oy2, e2, _, hat⟩ := (HK3.out.up hb6).2.2.2.2 (by omega)
                cases e2
                have HHAT := Lib.hid hat
                rw [hw6]
                clear v0 v2 v3 v4 u3 u4 n0 n2 y0 y1 y2 hw6 hat HK3 hb6
                go_wp2_with fail
                go_loopw [19] (CntQ ms.length w6) (fun v _ => ms.length - (intOf v).toNat)
                case atStart => exact ⟨0, Nat.zero_le _, rfl, Below.refl _ _⟩
                case round =>
                  as_aux_lemma =>
                  obtain ⟨i, hi, rfl, hbw⟩ := hrel
                  by_cases hlt : i < ms.length
                  · have hltI : (i : Int) < (ms.length : Int) := by omega
                    have HB7 := Lib.hid (HB5.out.trans (hbw.mono HB5.out.size))
                    obtain ⟨gm, om, m, rfl, hgm, hm, hcm⟩ := (HM.out _ HB7.out).2.2.2.2.at_ hlt
                    obtain ⟨hm0, hm1⟩ := HMS.out m (List.mem_of_getElem? hm)
                    obtain ⟨q, rfl⟩ : ∃ q : Nat, m = (q : Int) := ⟨m.toNat, by omega⟩
                    have hq : q < 64 := by omega
                    obtain ⟨Ap, np, cp, Av, nv, cv, y0, y1, y2, _, hv, _⟩ := HHAT.out (i + 1) ⟨201, P17, meterV b q⟩ (by
                      show (ms.map (meterB b))[i]? = _
                      rw [List.getElem?_map, hm]; rfl)
                    obtain rfl : nv = 17 := by rw [← hv.1]; exact meterV_len b q
                    obtain ⟨gv, ov, rfl, hgv, hvat⟩ := hv.2.2.2.2 (by omega)
                    have hsok := HBK.out.sumAt q hq
                    have hh := fun (j : Nat) (v : ValP) (hj : j < 9) (h : (meterH q (b.sumAt q))[j]? = some v) => hvat j v ((head_at b q j hj).trans h)
                    have hbnd := fun (j : Nat) (hj : j < 8) => (hvat (9 + j) _ (band_at b q j hj)).2.1
                    have HSUM : Hid (Calls Tryd.prog 18 #[.slice A8 L.length c8, .int .i64 q] wr fun e w' => e = .returned (.agg (b.sumAt q).arr) ∧ Below wr.heap.size wr w') := Lib.hid (by
                      have h := rsum_any L HAD.out A8 L.length c8 q wr (HE5.out.up hbw) (by omega)
                      rw [HRB.out] at h
                      have hsI : b.sumI q = b.sumAt q := by unfold Bk.sumI; rw [if_pos (by omega)]; simp
                      rwa [hsI] at h)
                    obtain ⟨S, hS⟩ : ∃ S, b.sumAt q = S := ⟨_, rfl⟩
                    rw [hS] at hsok hh HSUM
                    have hnl := hsok.hash
                    have ISs : Hid ((Tryd.prog.info? 65).map (·.size) = some S.arr.size) := Lib.hid (by rw [sum_size, SumS.arr_size _ hnl])
                    have IZ : Hid (S.arr.size = SumS.zero.arr.size) := Lib.hid (by rw [SumS.arr_size _ hnl, SumS.arr_size _ rfl])
                    unfold SumS.ok amt at hsok
                    obtain ⟨k1, k2, ⟨k31, k32⟩, ⟨k41, k42⟩, ⟨k51, k52⟩, ⟨k61, k62⟩, ⟨k71, k72⟩, _⟩ := hsok
                    have v0 := (hh 0 _ (by omega) rfl).1
                    have v1 := (hh 1 _ (by omega) rfl).2.1
                    have v2 := (hh 2 _ (by omega) rfl).2.1
                    have v3 := (hh 3 _ (by omega) rfl).1
                    have v4 := (hh 4 _ (by omega) rfl).1
                    have v5 := (hh 5 _ (by omega) rfl).1
                    have v6 := (hh 6 _ (by omega) rfl).1
                    have v7 := (hh 7 _ (by omega) rfl).1
                    have v8 := (hh 8 _ (by omega) rfl).1
                    simp only [lowP] at v3 v4 v5 v6 v7
                    rw [wrap32_in _ k31 (by omega)] at v3
                    rw [wrap32_in _ k41 (by omega)] at v4
                    rw [wrap32_in _ k51 (by omega)] at v5
                    rw [wrap32_in _ k61 (by omega)] at v6
                    rw [wrap32_in _ k71 (by omega)] at v7
                    simp only [Nat.zero_mul, Nat.add_zero] at v0
                    have HV := Lib.hid (And.intro y0 (And.intro y2 (And.intro v0 (And.intro v1 (And.intro v2 (And.intro v3 (And.intro v4 (And.intro v5 (And.intro v6 (And.intro v7 v8))))))))))
                    have HBN := Lib.hid hbnd
                    have HCM := Lib.hid hcm
                    have hgy := World.block_lt_of_cell? _ _ y0
                    have hz7 := hbw.size
                    clear y0 y1 y2 v0 v1 v2 v3 v4 v5 v6 v7 v8 hh hvat hv hnl hbnd hm
                    go_upto_region 33 with (first
                      | (go_at_call 18; refine HSUM.out.mono ?_; rintro e' V3 ⟨rfl, hb3⟩; (have hz3 := hb3.size))
                      | ((with_reducible refine wpList_alloc_held (dst := some 20) 65 SumS.zero.arr (by kernel_rfl) alloc_sum ?_); intro V4 h8 b4 z4; (have l4 : V3.heap.size < V4.heap.size := (by omega)); clear z4; simp only [Act.put, List.setIfInBounds_toArray, List.set_cons_succ, List.set_cons_zero])
                      | ((with_reducible refine wpList_store_held 65 (.tmp 20) (.tmp 222) V3.heap.size 65 _ S.arr (by kernel_rfl) (by kernel_rfl) (by kernel_rfl) h8 IZ.out ISs.out (sum_one _) ?_); intro V5 g8 b5 z5; clear z5; simp only [Act.put, List.setIfInBounds_toArray, List.set_cons_succ, List.set_cons_zero]))
                    have hb35 : Below wr.heap.size wr V5 := (hb3.trans (b4.mono (by omega))).trans (b5.below (by omega) (by have := b4.size; omega))
                    have hb5 : Below w6.heap.size w6 V5 := hbw.trans (hb35.mono hz7)
                    have hcm5 : V5.cell? ⟨gm, om + i, none⟩ = some (.int .i64 q) := (hb35.cell (p := ⟨gm, om + i, none⟩) hgm).trans HCM.out
                    obtain ⟨sc0, sc1, sc2, sc3, sc4, sc5, sc6⟩ := sum_cells g8
                    have sc9 := sum_start g8
                    obtain ⟨y0, y2, v0, v1, v2, v3, v4, v5, v6, v7, v8⟩ := HV.out
                    replace y0 := (hb5.cell (p := ⟨gy, oy + (i + 1) * 3, none⟩) hgy).trans y0
                    replace y2 := (hb5.cell (p := ⟨gy, oy + (i + 1) * 3 + 2, none⟩) hgy).trans y2
                    replace v0 := (hb5.cell (p := ⟨gv, ov, none⟩) hgv).trans v0
                    replace v1 := (hb5.cell (p := ⟨gv, ov + 1 * 3 + 1, none⟩) hgv).trans v1
                    replace v2 := (hb5.cell (p := ⟨gv, ov + 2 * 3 + 1, none⟩) hgv).trans v2
                    replace v3 := (hb5.cell (p := ⟨gv, ov + 3 * 3, none⟩) hgv).trans v3
                    replace v4 := (hb5.cell (p := ⟨gv, ov + 4 * 3, none⟩) hgv).trans v4
                    replace v5 := (hb5.cell (p := ⟨gv, ov + 5 * 3, none⟩) hgv).trans v5
                    replace v6 := (hb5.cell (p := ⟨gv, ov + 6 * 3, none⟩) hgv).trans v6
                    replace v7 := (hb5.cell (p := ⟨gv, ov + 7 * 3, none⟩) hgv).trans v7
                    replace v8 := (hb5.cell (p := ⟨gv, ov + 8 * 3, none⟩) hgv).trans v8
                    have u0 : IntKind.u64.wrap (q : Int) = (q : Int) := wrapu64_in _ (by omega) (by omega)
                    have u3 := wrapu64_in _ k31 (by omega)
                    have u4 := wrapu64_in _ k41 (by omega)
                    have u5 := wrapu64_in _ k51 (by omega)
                    have u6 := wrapu64_in _ k61 (by omega)
                    have u7 := wrapu64_in _ k71 (by omega)
                    have hi1 : IntKind.i64.wrap ((i : Int) + 1) = (i : Int) + 1 := by simp only [IntKind.wrap_i64]; omega
                    have hiL : (i : Int) + 1 < (ms.length : Int) + 1 := by omega
                    have HBX := Lib.hid (And.intro hb5 hb35)
                    clear hb3 b4 b5 h8 g8 hb35 hb5
                    generalize V3.heap.size = gs at *
                    go_wp2_with fail
                    dsimp only [List.append_eq, List.cons_append, List.nil_append]
                    as_aux_lemma =>
                    refine wp_region_quiet_lit (by kernel_rfl) (lexB_four 26 26 26 26 (by kernel_rfl) (by kernel_rfl) (by as_aux_lemma => kernel_rfl) (by as_aux_lemma => kernel_rfl) (by as_aux_lemma => kernel_rfl) (by as_aux_lemma => kernel_rfl) (by as_aux_lemma => kernel_rfl)) ?_
                    iterate 40 (go_big_quiet_step (fail))
                    as_aux_lemma =>
                    iterate 35 (go_big_quiet_step (fail))
                    as_aux_lemma =>
                    repeat (go_big_quiet_step (fail))
                    refine wpQuiet_nil ?_
                    intro _ hw'
                    obtain ⟨nq, hw''⟩ := hw'
                    subst hw''
                    obtain ⟨w7, hw7⟩ : ∃ Y : World, V5.drewN nq = Y := ⟨_, rfl⟩
                    have hb7 : Below V5.heap.size V5 w7 := by rw [← hw7]; exact below_drewN (Below.refl _ _) _
                    have hb5 := HBX.out.1.trans (hb7.mono HBX.out.1.size)
                    have hb35 := HBX.out.2.trans (hb7.mono HBX.out.2.size)
                    have HB5' := Lib.hid (And.intro hb5 ((hb35.cell (p := ⟨gm, om + i, none⟩) hgm).trans HCM.out))
                    have hgm5 : gm < w7.heap.size := Nat.lt_of_lt_of_le hgm hb35.size
                    have hgv5 : gv < w7.heap.size := Nat.lt_of_lt_of_le hgv hb5.size
                    have hE9 := Lib.hid (HE5.out.up hb5)
                    rw [hw7]
                    clear y0 y2 v0 v1 v2 v3 v4 v5 v6 v7 v8 sc0 sc1 sc2 sc3 sc4 sc5 sc6 sc9 u0 u3 u4 u5 u6 u7 hcm5 hw7 hb7 hb5 hb35 HBX
                    go_wp2_with fail
                    go_loopw [22] (CntQ 8 w7) (fun v _ => 8 - (intOf v).toNat)
                    case atStart => exact ⟨0, Nat.zero_le _, rfl, Below.refl _ _⟩
                    case round =>
                      as_aux_lemma =>
                      obtain ⟨k, hk, rfl, hbk8⟩ := hrel
                      by_cases hk8 : k < 8
                      · have hk8I : (k : Int) < 8 := by omega
                        have hbA := HB5'.out.1.trans (hbk8.mono HB5'.out.1.size)
                        have hgv8 : gv < wr.heap.size := Nat.lt_of_lt_of_le hgv5 hbk8.size
                        have hgm8 : gm < wr.heap.size := Nat.lt_of_lt_of_le hgm5 hbk8.size
                        have vk := (hbA.cell (p := ⟨gv, ov + (9 + k) * 3 + 1, none⟩) hgv).trans (HBN.out k hk8)
                        have hcm8 := (hbk8.cell (p := ⟨gm, om + i, none⟩) hgm5).trans HB5'.out.2
                        obtain ⟨T, hT⟩ : ∃ T, b.totAt q k = T := ⟨_, rfl⟩
                        rw [hT] at vk
                        have HTOT : Hid (∀ V : World, Below wr.heap.size wr V → Calls Tryd.prog 19 #[.slice A8 L.length c8, .int .i64 q, .int .i64 k] V fun e w' => e = .returned (.agg #[.int .i64 T.energy, .int .i64 T.cost, .int .i64 T.many]) ∧ Below V.heap.size V w') := Lib.hid (fun V hV => by
                          have h := rtotal_any L HAD.out A8 L.length c8 q k V ((hE9.out.up hbk8).up hV) (by omega)
                          rw [HRB.out] at h
                          have htI : b.totI q k = T := by rw [← hT]; unfold Bk.totI; rw [if_pos (by omega)]; simp
                          rw [htI] at h
                          exact h)
                        have h9 : IntKind.i64.wrap (9 + (k : Int)) = 9 + (k : Int) := by simp only [IntKind.wrap_i64]; omega
                        have h90 : 0 ≤ 9 + (k : Int) := by omega
                        have h917 : 9 + (k : Int) < 17 := by omega
                        have h9n : (9 + (k : Int)).toNat = 9 + k := by omega
                        have hFL := fun V => tot_field T.energy T.cost T.many V
                        have HBW := Lib.hid hbk8
                        clear hT hbA hbk8
                        go_upto_region 39 with fail
                        obtain ⟨wd39, hwd39⟩ : ∃ W : World, wr.drew = W := ⟨_, rfl⟩
                        have hS : Below wr.heap.size wr wd39 := by rw [← hwd39]; exact (Below.refl _ _).drew
                        refine wp_region_held (S := Below wr.heap.size wr) (by kernel_rfl) ?_
                        change wpAnyH _ _ _ _ _ _ _ _ wr.drew
                        rw [hwd39]
                        clear hwd39
                        refine wpAnyH_take (i := 0) (v := ?v0_1) rfl (by kernel_rfl) (by kernel_rfl) (by kernel_rfl) (fun _ _ _ h => h) (Or.inl ⟨by rfl, ?y0_1⟩) hS ?r0_1
                        case y0_1 =>
                          rintro W hH
                          go_simp
                          with_reducible rfl
                        simp only [Act.put]
                        try simp only [List.getElem_toArray, List.getElem_cons_zero]
                        try simp only [List.setIfInBounds_toArray, List.set_cons_succ, List.set_cons_zero]
                        refine wpAnyH_take (i := 1) (v := ?v1_2) rfl (by kernel_rfl) (by kernel_rfl) (by kernel_rfl) (fun _ _ _ h => h) (Or.inl ⟨by rfl, ?y1_2⟩) hS ?r1_2
                        case y1_2 =>
                          rintro W hH
                          go_simp
                          with_reducible rfl
                        simp only [Act.put]
                        try simp only [List.getElem_toArray, List.getElem_cons_succ, List.getElem_cons_zero]
                        try simp only [List.setIfInBounds_toArray, List.set_cons_succ, List.set_cons_zero]
                        refine wpAnyH_take (i := 2) (v := ?v2_3) rfl (by kernel_rfl) (by kernel_rfl) (by kernel_rfl) (fun _ _ _ h => h) (Or.inl ⟨by rfl, ?y2_3⟩) hS ?r2_3
                        case y2_3 =>
                          rintro W hH
                          go_simp
                          with_reducible rfl
                        simp only [Act.put]
                        try simp only [List.getElem_toArray, List.getElem_cons_succ, List.getElem_cons_zero]
                        try simp only [List.setIfInBounds_toArray, List.set_cons_succ, List.set_cons_zero]
                        refine wpAnyH_take (i := 3) (v := ?v3_4) rfl (by kernel_rfl) (by kernel_rfl) (by kernel_rfl) (fun _ _ _ h => h) (Or.inl ⟨by rfl, ?y3_4⟩) hS ?r3_4
                        case y3_4 =>
                          rintro W hH
                          go_simp
                          with_reducible rfl
                        simp only [Act.put]
                        try simp only [List.getElem_toArray, List.getElem_cons_succ, List.getElem_cons_zero]
                        try simp only [List.setIfInBounds_toArray, List.set_cons_succ, List.set_cons_zero]
                        refine wpAnyH_take (i := 4) (v := ?v4_5) rfl (by kernel_rfl) (by kernel_rfl) (by kernel_rfl) (fun _ _ _ h => h) (Or.inl ⟨by rfl, ?y4_5⟩) hS ?r4_5
                        case y4_5 =>
                          rintro W hH
                          go_simp
                          with_reducible rfl
                        simp only [Act.put]
                        try simp only [List.getElem_toArray, List.getElem_cons_succ, List.getElem_cons_zero]
                        try simp only [List.setIfInBounds_toArray, List.set_cons_succ, List.set_cons_zero]
                        refine wpAnyH_take (i := 5) (v := ?v5_6) rfl (by kernel_rfl) (by kernel_rfl) (by kernel_rfl) (fun _ _ _ h => h) (Or.inl ⟨by rfl, ?y5_6⟩) hS ?r5_6
                        case y5_6 =>
                          rintro W hH
                          have p1 := (hH.cell (p := ⟨gv, ov + (9 + k) * 3 + 1, none⟩) hgv8).trans vk
                          have p2 := (hH.cell (p := ⟨gm, om + i, none⟩) hgm8).trans hcm8
                          go_simp
                          with_reducible rfl
                        simp only [Act.put]
                        try simp only [List.getElem_toArray, List.getElem_cons_succ, List.getElem_cons_zero]
                        try simp only [List.setIfInBounds_toArray, List.set_cons_succ, List.set_cons_zero]
                        refine wpAnyH_take (i := 6) (v := ?v6_7) rfl (by kernel_rfl) (by kernel_rfl) (by kernel_rfl) (fun _ _ _ h => h) (Or.inl ⟨by rfl, ?y6_7⟩) hS ?r6_7
                        case y6_7 =>
                          rintro W hH
                          go_simp
                          with_reducible rfl
                        simp only [Act.put]
                        try simp only [List.getElem_toArray, List.getElem_cons_succ, List.getElem_cons_zero]
                        try simp only [List.setIfInBounds_toArray, List.set_cons_succ, List.set_cons_zero]
                        refine wpAnyH_take (i := 7) (v := ?v7_8) rfl (by kernel_rfl) (by kernel_rfl) (by kernel_rfl) (fun _ _ _ h => h) (Or.inl ⟨by rfl, ?y7_8⟩) hS ?r7_8
                        case y7_8 =>
                          rintro W hH
                          go_simp
                          with_reducible rfl
                        simp only [Act.put]
                        try simp only [List.getElem_toArray, List.getElem_cons_succ, List.getElem_cons_zero]
                        try simp only [List.setIfInBounds_toArray, List.set_cons_succ, List.set_cons_zero]
                        refine wpAnyH_take (i := 8) (v := ?v8_9) rfl (by kernel_rfl) (by kernel_rfl) (by kernel_rfl) (fun _ _ _ h => h) (Or.inl ⟨by rfl, ?y8_9⟩) hS ?r8_9
                        case y8_9 =>
                          rintro W hH
                          go_simp
                          with_reducible rfl
                        simp only [Act.put]
                        try simp only [List.getElem_toArray, List.getElem_cons_succ, List.getElem_cons_zero]
                        try simp only [List.setIfInBounds_toArray, List.set_cons_succ, List.set_cons_zero]
                        refine wpAnyH_take (i := 9) (v := ?v9_10) rfl (by kernel_rfl) (by kernel_rfl) (by kernel_rfl) (fun _ _ _ h => h) (Or.inl ⟨by rfl, ?y9_10⟩) hS ?r9_10
                        case y9_10 =>
                          rintro W hH
                          go_simp
                          with_reducible rfl
                        simp only [Act.put]
                        try simp only [List.getElem_toArray, List.getElem_cons_succ, List.getElem_cons_zero]
                        try simp only [List.setIfInBounds_toArray, List.set_cons_succ, List.set_cons_zero]
                        refine wpAnyH_take (i := 10) (v := ?v10_11) rfl (by kernel_rfl) (by kernel_rfl) (by kernel_rfl) (fun _ _ _ h => h) (Or.inl ⟨by rfl, ?y10_11⟩) hS ?r10_11
                        case y10_11 =>
                          rintro W hH
                          have p1 := (hH.cell (p := ⟨gv, ov + (9 + k) * 3 + 1, none⟩) hgv8).trans vk
                          have p2 := (hH.cell (p := ⟨gm, om + i, none⟩) hgm8).trans hcm8
                          go_simp
                          with_reducible rfl
                        simp only [Act.put]
                        try simp only [List.getElem_toArray, List.getElem_cons_succ, List.getElem_cons_zero]
                        try simp only [List.setIfInBounds_toArray, List.set_cons_succ, List.set_cons_zero]
                        refine wpAnyH_take (i := 11) (v := ?v11_12) rfl (by kernel_rfl) (by kernel_rfl) (by kernel_rfl) (fun _ _ _ h => h) (Or.inl ⟨by rfl, ?y11_12⟩) hS ?r11_12
                        case y11_12 =>
                          rintro W hH
                          go_simp
                          with_reducible rfl
                        simp only [Act.put]
                        try simp only [List.getElem_toArray, List.getElem_cons_succ, List.getElem_cons_zero]
                        try simp only [List.setIfInBounds_toArray, List.set_cons_succ, List.set_cons_zero]
                        refine wpAnyH_ready (rs := [12]) (by kernel_rfl) (by simp) ?_
                        refine AllReadyH.cons rfl (fun K' hK' => ?_) AllReadyH.nil
                        go_simp
                        refine (HTOT.out _ hS).mono ?_
                        rintro e X1 ⟨rfl, bk⟩
                        dsimp only
                        refine hK'.out _ _ (hS.trans (bk.mono hS.size)) (fun hS => ?_)
                        clear hK' K'
                        refine wpAnyH_take (i := 13) (v := ?v13_13) rfl (by kernel_rfl) (by kernel_rfl) (by kernel_rfl) (fun _ _ _ h => h) (Or.inl ⟨by rfl, ?y13_13⟩) hS ?r13_13
                        case y13_13 =>
                          rintro W hH
                          go_simp
                          with_reducible rfl
                        simp only [Act.put]
                        try simp only [List.getElem_toArray, List.getElem_cons_succ, List.getElem_cons_zero]
                        try simp only [List.setIfInBounds_toArray, List.set_cons_succ, List.set_cons_zero]
                        refine wpAnyH_take (i := 14) (v := ?v14_14) rfl (by kernel_rfl) (by kernel_rfl) (by kernel_rfl) (fun _ _ _ h => h) (Or.inl ⟨by rfl, ?y14_14⟩) hS ?r14_14
                        case y14_14 =>
                          rintro W hH
                          go_simp
                          with_reducible rfl
                        simp only [Act.put]
                        try simp only [List.getElem_toArray, List.getElem_cons_succ, List.getElem_cons_zero]
                        try simp only [List.setIfInBounds_toArray, List.set_cons_succ, List.set_cons_zero]
                        refine wpAnyH_done (by kernel_rfl) ?_ _
                        go_wp2_with fail
                        go_roundw
                        case rel => exact ⟨k + 1, by omega, by go_num, HBW.out.trans (hS.mono HBW.out.size)⟩
                        case measure => simp [intOf]; omega
                      · obtain rfl : k = 8 := by omega
                        have hbF := HB5'.out.1.trans (hbk8.mono HB5'.out.1.size)
                        go_wp2_with fail
                        go_roundw
                        case rel => exact ⟨i + 1, by omega, by go_num, hbF⟩
                        case measure => simp [intOf]; omega
                  · obtain rfl : i = ms.length := by omega
                    have hltI2 : decide ((ms.length : Int) < (ms.length : Int)) = false := by simp
                    have hbF := HB5.out.trans (hbw.mono HB5.out.size)
                    go_wp2_with fail
                    go_ret
                    exact ⟨rfl, hbF⟩
end Go.Proofs.YtnnknnaimabehaaDoor
