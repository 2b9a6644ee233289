/- LedgerSums, walked. -/
import Derived.Test.YtjcpgnachkhjaaaDoorLedSumsP
import Derived.Test.YtjcpgnachkhjaaaDoorLedAliveW
import Derived.LoopTactic
namespace Go.Proofs.YtjcpgnachkhjaaaDoor
open Go.RowKit Go.Shelf
attribute [local go_sem] Oper.semAt_some
set_option linter.unusedVariables false
set_option linter.unusedSimpArgs false
set_option maxRecDepth 100000
theorem wrap_in (a b : Int) : IntKind.i64.wrap (IntKind.i64.wrap a + b) = IntKind.i64.wrap (a + b) := by
  simp [IntKind.wrap, IntKind.bits, IntKind.signed]; omega
def wr64 (a : Int) : Int := wrap64 a
theorem wr64_0 : wr64 0 = 0 := by unfold wr64 wrap64; omega
theorem wr64_add (a b : Int) : wrap64 (wr64 a + b) = wr64 (a + b) := by
  unfold wr64 wrap64; omega
theorem wr64_in (a : Int) (h1 : -9223372036854775808 ≤ a) (h2 : a ≤ 9223372036854775807) : wr64 a = a := by
  unfold wr64 wrap64; omega
/-- What stands at the heads. -/
def AddR (es : List Ent) (w : World) (g : Nat) (v : Value) (wr : World) : Prop := ∃ i : Nat, i ≤ es.length ∧ v = .int .i64 i ∧ Held wr g 40 (runB (es.take i)).arr ∧ Below w.heap.size w wr
def OutR (b : Bk) (w : World) (g : Nat) (v6 v7 : Value) (wr : World) : Prop := ∃ m : Nat, m ≤ 64 ∧ v7 = .int .i64 m ∧ v6 = .int .i64 (wr64 (aS b m)) ∧ Held wr g 40 b.arr ∧ Below w.heap.size w wr
def InR (b : Bk) (S : SumS) (w : World) (g gs m : Nat) (v9 v10 v11 v12 : Value) (wr : World) : Prop := ∃ k : Nat, k ≤ 8 ∧ v12 = .int .i64 k ∧ v9 = .int .i64 (wr64 (tS Tot.energy b m k)) ∧ v10 = .int .i64 (wr64 (tS Tot.cost b m k)) ∧ v11 = .int .i64 (wr64 (tS Tot.many b m k)) ∧ Held wr g 40 b.arr ∧ Held wr gs 36 S.arr ∧ Below w.heap.size w wr
set_option maxHeartbeats 4000000 in
theorem sums_any (es : List Ent) (A : Option Addr) (n c : Nat) (w : World) (hl : EnI w A n es) (hT : WordsT w) (hP : P10 w) :
    Calls Tryd.prog 4 #[.slice A n c] w fun e w' => e = .returned (.bool true) ∧ Below w.heap.size w w' := by
  have HA := Lib.hid (alive_any w hT hP)
  obtain ⟨hnl, hok, hat⟩ := hl
  subst hnl
  have HAT := Lib.hid hat
  have HOK := Lib.hid hok
  have HT := Lib.hid hT
  clear hat hok hT hP
  by_cases hbig : 60 < es.length
  · have hbI : (60 : Int) < (es.length : Int) := by omega
    go_in
    go_wp2_with (go_at_call 8; refine HA.out.mono ?_; rintro e w1 ⟨rfl, hb1⟩)
    go_ret
    exact ⟨rfl, hb1⟩
  have hbI : ¬ ((60 : Int) < (es.length : Int)) := by omega
  go_in
  go_wp2_with (first
    | (go_at_call 8; refine HA.out.mono ?_; rintro e w1 ⟨rfl, hb1⟩)
    | ((with_reducible refine wpList_build_at (dst := some 23) 40 #[] #[] _ (by kernel_rfl) (by kernel_rfl) (build_book _) ?_); simp only [Act.put, List.setIfInBounds_toArray, List.set_cons_succ, List.set_cons_zero]))
  have h0 : Hid (Held (w1.alloc (.cells Bk.zero.arr 40)) w1.heap.size 40 Bk.zero.arr ∧ Below w.heap.size w (w1.alloc (.cells Bk.zero.arr 40))) := Lib.hid ⟨Held.new w1 _ _, hb1.alloc hb1.size _⟩
  have hs1 := hb1.size
  go_loopw [5] (AddR es w w1.heap.size) (fun v _ => es.length - (intOf v).toNat)
  case atStart => exact ⟨0, Nat.zero_le _, rfl, by rw [List.take_zero]; exact h0.out.1, h0.out.2⟩
  case round =>
    obtain ⟨i, hi, rfl, hB, hbl⟩ := hrel
    by_cases hlt : i < es.length
    · obtain ⟨e, he⟩ : ∃ e, es[i]? = some e := ⟨_, List.getElem?_eq_getElem hlt⟩
      obtain ⟨g, o, rfl, hrg⟩ := HAT.out i e he
      have hre := rangeAt_up hrg hbl
      have heo := HOK.out e (List.mem_of_getElem? he)
      have hel := heo.2.2.2.2.2.2.2.2.2.2.1
      have hbk := runB_ok_take es HOK.out i hi
      have HE := Lib.hid he
      have IE : Hid ((Tryd.prog.info? 28).map (·.size) = some e.cells.length) := Lib.hid (by rw [ent_size e hel]; simp [Ent.arr])
      have HADD := Lib.hid (badd_any i (by omega) (by omega) _ hbk e heo _ wr hB (HT.out.up hbl))
      have hltI : (i : Int) < (es.length : Int) := by omega
      have hbz := hbl.size
      clear hrg heo hel he hbk hB
      go_wp2_with (first
        | ((with_reducible refine wpList_load_at (dst := some 35) 28 (.tmp 34) g (o + i * 42) e.cells _ (by kernel_rfl) (by kernel_rfl) hre Tryd.underlying28 (by kernel_rfl) IE.out ?_); simp only [Act.put, List.setIfInBounds_toArray, List.set_cons_succ, List.set_cons_zero])
        | (go_at_call 9; refine HADD.out.mono ?_; rintro e' V3 ⟨rfl, hB3, hb3⟩; (have hbF := hbl.trans (hb3.below (by omega) hbz))))
      go_roundw
      case rel => exact ⟨i + 1, by omega, by go_num, by rw [runB_take es i e HE.out]; exact hB3, hbF⟩
      case measure => simp [intOf]; omega
    · obtain rfl : i = es.length := by omega
      have hltI : decide ((es.length : Int) < (es.length : Int)) = false := by simp
      rw [List.take_length] at hB
      have hbk0 := runB_ok es HOK.out
      have hinv := SumInv.run es HOK.out
      generalize runB es = b at hB hbk0 hinv
      have hbk : b.ok 60 := hbk0.mono (by omega)
      clear hbk0 h0 HAT HOK HT
      have HSEAL := Lib.hid (seals_any 60 b hbk w1.heap.size)
      have HSUM := Lib.hid (fun (V : World) (m : Nat) (hm : m < 64) (hV : Held V w1.heap.size 40 b.arr) => bsum_any 60 b hbk w1.heap.size m V hV)
      have HTOT := Lib.hid (fun (V : World) (m k : Nat) (hV : Held V w1.heap.size 40 b.arr) => total_any 60 b hbk w1.heap.size m k V hV)
      have HLEN := Lib.hid (len_any 60 b hbk w1.heap.size)
      have HINV := Lib.hid hinv
      have HBK := Lib.hid hbk
      clear hinv hbk
      go_wp2_with (go_at_call 12; refine (HSEAL.out _ hB).mono ?_; rintro e' V3 ⟨rfl, rfl⟩)
      have hseal : wr64 (aS b 0) = b.seals := wr64_in _ (by have := HBK.out.e; show _ ≤ b.seals; omega) (by have := HBK.out.e; show b.seals ≤ _; omega)
      have hw1 : wr64 (aS b 64) = b.many := by rw [HINV.out.a]; exact wr64_in _ (by have := HBK.out.m; omega) (by have := HBK.out.m; omega)
      have H0 := Lib.hid (And.intro hB hbl)
      clear hB hbl
      go_loopw [6, 7] (OutR b w w1.heap.size) (fun _ v _ => 64 - (intOf v).toNat)
      case atStart => exact ⟨0, by omega, rfl, by rw [hseal], H0.out.1, H0.out.2⟩
      case round =>
        obtain ⟨m, hm, rfl, e6, hB, hbl⟩ := hrel
        by_cases hm2 : m < 64
        · subst e6
          have hmI : (m : Int) ≤ 63 := by omega
          have HS1 := Lib.hid (HSUM.out wr m hm2 hB)
          have htI : ∀ k : Nat, k < 8 → b.totI m k = b.totAt m k := fun k hk => by unfold Bk.totI; rw [if_pos (by omega)]; simp
          have hsI : b.sumI m = b.sumAt m := by unfold Bk.sumI; rw [if_pos (by omega)]; simp
          rw [hsI] at HS1
          have hsok := HBK.out.sumAt m hm2
          have ie := HINV.out.e m hm2
          have ic := HINV.out.c m hm2
          have im := HINV.out.n m hm2
          have iff' := HINV.out.f m hm2
          obtain ⟨S, hS⟩ : ∃ S, b.sumAt m = S := ⟨_, rfl⟩
          have haS : aS b (m + 1) = aS b m + sumN S := by rw [← hS]; rfl
          rw [hS] at HS1 hsok ie ic im iff'
          have hnl := hsok.hash
          have ISs : Hid ((Tryd.prog.info? 36).map (·.size) = some S.arr.size) := Lib.hid (by rw [sum_size, SumS.arr_size _ hnl])
          have IZ : Hid (S.arr.size = SumS.zero.arr.size) := Lib.hid (by rw [SumS.arr_size _ hnl, SumS.arr_size _ rfl])
          unfold SumS.ok amt at hsok
          obtain ⟨k1, k2, k3, k4, k5, k6, k7, _⟩ := hsok
          have we : wr64 (tS Tot.energy b m 8) = S.energy := by rw [ie]; exact wr64_in _ (by omega) (by omega)
          have wc : wr64 (tS Tot.cost b m 8) = S.cost := by rw [ic]; exact wr64_in _ (by omega) (by omega)
          have wm : wr64 (tS Tot.many b m 8) = S.intervals + S.corrected := by rw [im]; exact wr64_in _ (by omega) (by omega)
          clear ie ic im hsI hnl
          have hbz := hbl.size
          have hBlt := hB.lt
          have HTI := Lib.hid htI
          clear htI
          go_wp2_with (first
            | (go_at_call 11; refine HS1.out.mono ?_; rintro e' V3 ⟨rfl, hb3⟩; (have hB3 := hB.below hb3 hBlt); (have hz3 := hb3.size))
            | ((with_reducible refine wpList_alloc_held (dst := some 8) 36 SumS.zero.arr (by kernel_rfl) alloc_sum ?_); intro V4 h8 b4 z4; (have l4 : V3.heap.size < V4.heap.size := (by omega)); clear z4; simp only [Act.put, List.setIfInBounds_toArray, List.set_cons_succ, List.set_cons_zero])
            | ((with_reducible refine wpList_store_held 36 (.tmp 8) (.tmp 45) V3.heap.size 36 _ S.arr (by kernel_rfl) (by kernel_rfl) (by kernel_rfl) h8 IZ.out ISs.out (sum_one _) ?_); intro V5 g8 b5 z5; clear z5; simp only [Act.put, List.setIfInBounds_toArray, List.set_cons_succ, List.set_cons_zero]))
          have hB5 : Held V5 w1.heap.size 40 b.arr := b5.held (by omega) (hB3.below b4 (by omega))
          have hb5 : Below w.heap.size w V5 := ((hbl.trans (hb3.mono hbz)).trans (b4.mono (by omega))).trans (b5.below (by omega) (by have := b4.size; omega))
          have H5 := Lib.hid (And.intro hB5 (And.intro g8 hb5))
          have hz5 := hb5.size
          generalize V3.heap.size = gs at H5 ⊢
          clear hB hbl hb3 hB3 h8 b4 g8 b5 hB5 hb5 HS1
          go_loopw [9, 10, 11, 12] (InR b S w w1.heap.size gs m) (fun _ _ _ v _ => 8 - (intOf v).toNat)
          case atStart => exact ⟨0, by omega, rfl, by rw [show tS Tot.energy b m 0 = 0 from rfl, wr64_0], by rw [show tS Tot.cost b m 0 = 0 from rfl, wr64_0], by rw [show tS Tot.many b m 0 = 0 from rfl, wr64_0], H5.out.1, H5.out.2.1, H5.out.2.2⟩
          case round =>
            clear H5
            obtain ⟨k, hk, rfl, e9, e10, e11, hB, hS8, hbl⟩ := hrel
            by_cases hk2 : k < 8
            · subst e9 e10 e11
              have hkI : (k : Int) ≤ 7 := by omega
              have HT1 := Lib.hid (HTOT.out wr m k hB)
              rw [HTI.out k hk2] at HT1
              have htok := HBK.out.totAt m k hm2 hk2
              have s1 : tS Tot.energy b m (k + 1) = tS Tot.energy b m k + (b.totAt m k).energy := rfl
              have s2 : tS Tot.cost b m (k + 1) = tS Tot.cost b m k + (b.totAt m k).cost := rfl
              have s3 : tS Tot.many b m (k + 1) = tS Tot.many b m k + (b.totAt m k).many := rfl
              obtain ⟨T, hT⟩ : ∃ T, b.totAt m k = T := ⟨_, rfl⟩
              rw [hT] at HT1 htok s1 s2 s3
              have ITs : Hid ((Tryd.prog.info? 32).map (·.size) = some T.arr.size) := Lib.hid tot_size
              have hbz2 := hbl.size
              have hBlt2 := hB.lt
              have hSlt2 := hS8.lt
              go_wp2_with (first
                | (go_at_call 10; refine HT1.out.mono ?_; rintro e' V6 ⟨rfl, hb6⟩; (have hB6 := hB.below hb6 hBlt2); (have hS6 := hS8.below hb6 hSlt2); (have hz6 := hb6.size))
                | ((with_reducible refine wpList_alloc_held (dst := some 13) 32 Tot.zero.arr (by kernel_rfl) alloc_tot ?_); intro V7 h13 b7 z7; (have l7 : V6.heap.size < V7.heap.size := (by omega)); clear z7; simp only [Act.put, List.setIfInBounds_toArray, List.set_cons_succ, List.set_cons_zero])
                | ((with_reducible refine wpList_store_held 32 (.tmp 13) (.tmp 53) V6.heap.size 32 _ T.arr (by kernel_rfl) (by kernel_rfl) (by kernel_rfl) h13 (by kernel_rfl) ITs.out (tot_one _) ?_); intro V8 g13 b8 z8; clear z8; (have tc := tot_cells g13); (obtain ⟨tc0, tc1, tc2⟩ := tc); simp only [Act.put, List.setIfInBounds_toArray, List.set_cons_succ, List.set_cons_zero]))
              have hB8 : Held V8 w1.heap.size 40 b.arr := b8.held (by omega) (hB6.below b7 (by omega))
              have hS9 : Held V8 gs 36 S.arr := b8.held (by omega) (hS6.below b7 (by omega))
              have hb8 : Below w.heap.size w V8 := ((hbl.trans (hb6.mono hbz2)).trans (b7.mono (by omega))).trans (b8.below (by omega) (by have := b7.size; omega))
              go_roundw
              case rel => exact ⟨k + 1, by omega, by go_num, by rw [s1, ← wr64_add], by rw [s2, ← wr64_add], by rw [s3, ← wr64_add], hB8, hS9, hb8⟩
              case measure => simp [intOf]; omega
            · obtain rfl : k = 8 := by omega
              rw [we] at e9
              rw [wc] at e10
              rw [wm] at e11
              subst e9 e10 e11
              obtain ⟨sc0, sc1, sc2, sc3, sc4, sc5, sc6⟩ := sum_cells hS8
              have hff : ¬ (S.intervals < S.flagged) := by omega
              have hin0 := wr64_in (S.intervals + S.corrected) (by omega) (by omega)
              go_wp2_with fail
              go_roundw
              case rel => exact ⟨m + 1, by omega, by go_num, by rw [haS]; unfold sumN; simp only [wr64_add]; congr 2; omega, hB, hbl⟩
              case measure => simp [intOf]; omega
        · obtain rfl : m = 64 := by omega
          rw [hw1] at e6
          subst e6
          go_wp2_with (go_at_call 13; refine (HLEN.out _ hB).mono ?_; rintro e' V3 ⟨rfl, rfl⟩)
          go_ret
          exact ⟨rfl, hbl⟩
end Go.Proofs.YtjcpgnachkhjaaaDoor
