/- kilowattref04.Of. -/
import Derived.Test.YtjkhkgdijnhdmaaDoorShaRefWords
import Derived.Deep.WholeRow
namespace Go.Proofs.YtjkhkgdijnhdmaaDoor
open Go.RowKit

theorem ch_or (e f g : Nat) (he : e < 4294967296) : (e &&& f) ||| (g &&& (4294967295 - e)) = Sh.ch e f g := by
  unfold Sh.ch
  apply Nat.eq_of_testBit_eq
  intro i
  have h1 := Nat.testBit_two_pow_sub_succ (x := e) (n := 32) he i
  rw [show (2 : Nat) ^ 32 - (e + 1) = 4294967295 - e by omega] at h1
  simp only [Nat.testBit_or, Nat.testBit_and, Nat.testBit_xor, h1]
  cases e.testBit i <;> cases f.testBit i <;> cases g.testBit i <;> cases decide (i < 32) <;> rfl
theorem maj_or (a b c : Nat) : (a &&& b) ||| (a &&& c) ||| (b &&& c) = Sh.maj a b c := by
  unfold Sh.maj
  apply Nat.eq_of_testBit_eq
  intro i
  simp only [Nat.testBit_or, Nat.testBit_and, Nat.testBit_xor]
  cases a.testBit i <;> cases b.testBit i <;> cases c.testBit i <;> rfl
theorem chO_plain (e f g : Nat) (he : e < 4294967296) (hf : f < 4294967296) (hg : g < 4294967296) : bits BinOp.or IntKind.u32 (bits BinOp.and IntKind.u32 (e : Int) (f : Int)) (bits BinOp.and IntKind.u32 (g : Int) (4294967295 - (e : Int))) = ((Sh.ch e f g : Nat) : Int) := by
  rw [show 4294967295 - (e : Int) = ((4294967295 - e : Nat) : Int) by omega, u32_and_nat _ _ he hf, u32_and_nat _ _ hg (by omega), u32_or_nat _ _ (Sh.and_lt he) (Sh.and_lt hg), ch_or e f g he]
theorem majO_plain (a b c : Nat) (ha : a < 4294967296) (hb : b < 4294967296) (hc : c < 4294967296) : bits BinOp.or IntKind.u32 (bits BinOp.or IntKind.u32 (bits BinOp.and IntKind.u32 (a : Int) (b : Int)) (bits BinOp.and IntKind.u32 (a : Int) (c : Int))) (bits BinOp.and IntKind.u32 (b : Int) (c : Int)) = ((Sh.maj a b c : Nat) : Int) := by
  rw [u32_and_nat _ _ ha hb, u32_and_nat _ _ ha hc, u32_and_nat _ _ hb hc, u32_or_nat _ _ (Sh.and_lt ha) (Sh.and_lt ha), u32_or_nat _ _ (Nat.or_lt_two_pow (n := 32) (Sh.and_lt ha) (Sh.and_lt ha)) (Sh.and_lt hb), maj_or]
theorem own_up2 {w w' : World} {B n : Nat} {e : TypeId} {v : Value} {xs : List Value} (h : w.ownsRow B e 1 v n xs) (hb : Below w.heap.size w w') : w'.ownsRow B e 1 v n xs := own_same h fun b hb' => hb.block b (h.lt b hb').2
theorem quiet_drewN {P : Program} {f : FuncId} {args : Array Value} {w : World} {n : Nat} {v : Value}
    (h : Calls P f args (w.drewN n) fun e w' => e = .returned v ∧ ∃ k, w' = (w.drewN n).drewN k) :
    Calls P f args (w.drewN n) fun e w'' => e = .returned v ∧ ∃ m, w'' = w.drewN m :=
  h.mono fun _ _ ⟨he, k, hk⟩ => ⟨he, n + k, by rw [hk, drewN_add]⟩
/-- Eight cells of a block, set one behind the other. -/
abbrev set8 (w : World) (g : Nat) (v0 v1 v2 v3 v4 v5 v6 v7 : Value) : World :=
  (((((((w.setCell ⟨g, 0, none⟩ v0).setCell ⟨g, 1, none⟩ v1).setCell ⟨g, 2, none⟩ v2).setCell ⟨g, 3, none⟩ v3).setCell ⟨g, 4, none⟩ v4).setCell ⟨g, 5, none⟩ v5).setCell ⟨g, 6, none⟩ v6).setCell ⟨g, 7, none⟩ v7
theorem set8_far {w : World} {g k : Nat} {t : TypeId} {cs : Array Value} (h : Held w k t cs) (hk : k ≠ g) (v0 v1 v2 v3 v4 v5 v6 v7 : Value) : Held (set8 w g v0 v1 v2 v3 v4 v5 v6 v7) k t cs :=
  (((((((h.far hk v0).far hk v1).far hk v2).far hk v3).far hk v4).far hk v5).far hk v6).far hk v7
theorem set8_below {n : Nat} {a w : World} {g : Nat} (h : Below n a w) (hk : n ≤ g) (v0 v1 v2 v3 v4 v5 v6 v7 : Value) : Below n a (set8 w g v0 v1 v2 v3 v4 v5 v6 v7) :=
  (((((((h.setCell (p := ⟨g, 0, none⟩) hk v0).setCell (p := ⟨g, 1, none⟩) hk v1).setCell (p := ⟨g, 2, none⟩) hk v2).setCell (p := ⟨g, 3, none⟩) hk v3).setCell (p := ⟨g, 4, none⟩) hk v4).setCell (p := ⟨g, 5, none⟩) hk v5).setCell (p := ⟨g, 6, none⟩) hk v6).setCell (p := ⟨g, 7, none⟩) hk v7
theorem set8_held {w : World} {g : Nat} {t : TypeId} (s s' : Sh.St) (h : Held w g t (arrU s.list)) :
    Held (set8 w g (.int .u32 (s'.a : Nat)) (.int .u32 (s'.b : Nat)) (.int .u32 (s'.c : Nat)) (.int .u32 (s'.d : Nat)) (.int .u32 (s'.e : Nat)) (.int .u32 (s'.f : Nat)) (.int .u32 (s'.g : Nat)) (.int .u32 (s'.h : Nat))) g t (arrU s'.list) := by
  have h8 := (((((((h.set 0 (.int .u32 (s'.a : Nat))).set 1 (.int .u32 (s'.b : Nat))).set 2 (.int .u32 (s'.c : Nat))).set 3 (.int .u32 (s'.d : Nat))).set 4 (.int .u32 (s'.e : Nat))).set 5 (.int .u32 (s'.f : Nat))).set 6 (.int .u32 (s'.g : Nat))).set 7 (.int .u32 (s'.h : Nat))
  rw [arrU_set, arrU_set, arrU_set, arrU_set, arrU_set, arrU_set, arrU_set, arrU_set] at h8
  exact h8
theorem set8_held' {w : World} {g : Nat} {t : TypeId} (s s' : Sh.St) (h : Held w g t (arrU s.list)) {v0 v1 v2 v3 v4 v5 v6 v7 : Int} (e0 : v0 = (s'.a : Nat)) (e1 : v1 = (s'.b : Nat)) (e2 : v2 = (s'.c : Nat)) (e3 : v3 = (s'.d : Nat)) (e4 : v4 = (s'.e : Nat)) (e5 : v5 = (s'.f : Nat)) (e6 : v6 = (s'.g : Nat)) (e7 : v7 = (s'.h : Nat)) :
    Held (set8 w g (.int .u32 v0) (.int .u32 v1) (.int .u32 v2) (.int .u32 v3) (.int .u32 v4) (.int .u32 v5) (.int .u32 v6) (.int .u32 v7)) g t (arrU s'.list) := by
  subst e0 e1 e2 e3 e4 e5 e6 e7
  exact set8_held s s' h
theorem add_cast (x y : Nat) : ((x : Int) + (y : Int)) % 4294967296 = (((x + y) % 4294967296 : Nat) : Int) := by simp
theorem set8_row {w : World} {g B n : Nat} {e : TypeId} {v : Value} {xs : List Value} (h : w.ownsRow B e 1 v n xs) (hk : ∀ b, v.ownBlock = some b → b ≠ g) (v0 v1 v2 v3 v4 v5 v6 v7 : Value) : (set8 w g v0 v1 v2 v3 v4 v5 v6 v7).ownsRow B e 1 v n xs :=
  own_same h fun b hb => by
    have hb' := hk b hb
    rw [set8, Below.heap_setCell _ _ _ _ hb', Below.heap_setCell _ _ _ _ hb', Below.heap_setCell _ _ _ _ hb', Below.heap_setCell _ _ _ _ hb', Below.heap_setCell _ _ _ _ hb', Below.heap_setCell _ _ _ _ hb', Below.heap_setCell _ _ _ _ hb', Below.heap_setCell _ _ _ _ hb']
/-- The message's blocks. -/
theorem msg_len (bs : List Nat) : ∃ m, (bs ++ Sh.padOf bs.length).length = 64 * m := ⟨(bs ++ Sh.padOf bs.length).length / 64, by rw [List.length_append]; have := Sh.pad_mod bs.length; omega⟩
set_option maxRecDepth 100000 in
set_option maxHeartbeats 4000000 in
theorem of_ref (A : Option Addr) (cap : Nat) (bs : List Nat) (w : World) (hR : SlI w w.heap.size .u8 A bs.length cap (nI bs)) (hbs : ∀ x ∈ bs, x < 256) (hmax : bs.length ≤ 999000) :
    Calls Tryd.prog 16 #[.slice A bs.length cap] w fun e w' => e = .returned (.agg (arr8 (Sh.digest bs))) ∧ Below w.heap.size w w' := by
  have HR := Lib.hid hR
  have HBS := Lib.hid hbs
  clear hR hbs
  go_in
  go_wp2_with (first
    | (go_at_call 21; (with_reducible refine (const_ref _).mono ?_); rintro e w' ⟨rfl, rfl⟩)
    | (go_at_call 22; (with_reducible refine (first_ref _).mono ?_); rintro e w' ⟨rfl, rfl⟩)
    | fail)
  obtain ⟨w1, hw1⟩ : ∃ w1, ((w.alloc (.cells (arr8 (List.replicate 32 0)) 35)).alloc (.cells (arrU Sh.kTab) 25)).alloc (.cells (arrU Sh.first.list) 25) = w1 := ⟨_, rfl⟩
  have hO1 : Held w1 w.heap.size 35 (arr8 (List.replicate 32 0)) := by rw [← hw1]; exact ((Held.new w _ _).alloc _).alloc _
  have hK1 : Held w1 (w.heap.size + 1) 25 (arrU Sh.kTab) := by
    rw [← hw1]; have := Held.new (w.alloc (.cells (arr8 (List.replicate 32 0)) 35)) 25 (arrU Sh.kTab); rw [World.size_alloc] at this; exact this.alloc _
  have hS1 : Held w1 (w.heap.size + 2) 25 (arrU Sh.first.list) := by
    rw [← hw1]; have := Held.new ((w.alloc (.cells (arr8 (List.replicate 32 0)) 35)).alloc (.cells (arrU Sh.kTab) 25)) 25 (arrU Sh.first.list); rw [World.size_alloc, World.size_alloc] at this; exact this
  have hb1 : Below w.heap.size w w1 := by rw [← hw1]; exact (((Below.refl _ w).alloc (Nat.le_refl _) _).alloc (by simp) _).alloc (by simp; omega) _
  have hz1 : w1.heap.size = w.heap.size + 3 := by rw [← hw1]; simp
  change Calls _ _ _ (((w.alloc (.cells (arr8 (List.replicate 32 0)) 35)).alloc (.cells (arrU Sh.kTab) 25)).alloc (.cells (arrU Sh.first.list) 25)) _
  rw [hw1]
  clear hw1
  go_at_call 40
  refine (message_ref A cap bs w1 (HR.out.up hb1) hmax).mono ?_
  rintro e w2 ⟨v5, rfl, hM2, hb2⟩
  have hO2 := hO1.below hb2 hO1.lt
  have hK2 := hK1.below hb2 hK1.lt
  have hS2 := hS1.below hb2 hS1.lt
  have hbw2 := hb1.trans (hb2.mono hb1.size)
  clear hO1 hK1 hS1 hb1
  obtain ⟨M, hM⟩ := msg_len bs
  rw [List.length_append] at hM
  rw [hM] at hM2
  have hLL := Sh.pad_mod bs.length
  obtain ⟨L, hL⟩ : ∃ L, L = bs ++ Sh.padOf bs.length := ⟨_, rfl⟩
  have hLl : L.length = 64 * M := by rw [hL, List.length_append]; exact hM
  have hpl := Sh.padOf_len bs.length
  have hMb : 64 * M ≤ 999999 := by rw [← hM, hpl]; unfold Sh.ends; omega
  have hM0 : 0 < M := by omega
  rw [← hL] at hM2
  have HL := Lib.hid (show Sh.digest bs = Sh.outOf (Sh.after L Sh.first M) by
    rw [Sh.digest, Sh.stateOf, ← hL, hLl, show 64 * M / 64 = M by omega])
  have HLB := Lib.hid (show ∀ x ∈ L, x < 256 by
    rw [hL]; intro x hx
    rcases List.mem_append.1 hx with hx | hx
    · exact HBS.out x hx
    · simp only [Sh.padOf, Sh.eight, List.mem_cons, List.mem_append, List.mem_replicate, List.not_mem_nil, or_false] at hx
      omega)
  clear hM hLL hL hpl
  obtain ⟨g5, c5, rfl, hg5, hg5', hc5, hc5m⟩ := own_pos hM2 (by omega)
  go_wp2
  go_loopw [6] (fun i wr => ∃ (m q : Nat), m ≤ M ∧ q = 64 * m ∧ i = .int .i64 (q : Int) ∧ Held wr w.heap.size 35 (arr8 (List.replicate 32 0)) ∧ Held wr (w.heap.size + 1) 25 (arrU Sh.kTab) ∧ Held wr (w.heap.size + 2) 25 (arrU (Sh.after L Sh.first m).list) ∧ wr.ownsRow w1.heap.size 5 1 (.slice (some ⟨g5, 0, none⟩) (64 * M) c5) (64 * M) ((nI L).map (Value.int .u8)) ∧ Below w.heap.size w wr) (fun i _ => 64 * M - (intOf i).toNat)
  case atStart => exact ⟨0, 0, by omega, rfl, rfl, hO2, hK2, hS2, hM2, hbw2⟩
  case round =>
    clear hO2 hK2 hS2 hM2 hbw2
    obtain ⟨m, q, hm, hq, rfl, hO, hK, hS, hRow, hbw⟩ := hrel
    by_cases hlt : m < M
    · have hqlt : q < 64 * M := by omega
      have hq64 : q + 64 ≤ 64 * M := by omega
      have hqi : (q : Int) + 64 ≤ (64 * M : Nat) := by omega
      have hqc : q + 64 ≤ c5 := by omega
      have sl := SlI.of_row' (l := L) hRow
      have hblk : ((L.drop q).take 64).length = 64 := by rw [List.length_take, List.length_drop]; omega
      have hrd : RdI wr wr.heap.size .u8 (some ⟨g5, q, none⟩) (nI ((L.drop q).take 64)) := by
        have h1 := (sl.drop q (by omega)).2.2.2.2.take 64
        rw [← nI_drop, ← nI_take, Nat.zero_add] at h1
        exact h1
      have HW := Lib.hid (words_ref (some ⟨g5, q, none⟩) (c5 - q) ((L.drop q).take 64) hblk (fun x hx => HLB.out x (List.mem_of_mem_drop (List.mem_of_mem_take hx))) wr hrd)
      have hWl : (Sh.words ((L.drop q).take 64) 64).length = 64 := Sh.words_len _ _
      have hWb : ∀ x ∈ Sh.words ((L.drop q).take 64) 64, x < 4294967296 := Sh.words_lt _ (fun x hx => HLB.out x (List.mem_of_mem_drop (List.mem_of_mem_take hx))) 64
      have HA := Lib.hid (show Sh.after L Sh.first (m + 1) = Sh.add (Sh.after L Sh.first m) (Sh.rounds (Sh.words ((L.drop q).take 64) 64) (Sh.after L Sh.first m) 64) by rw [hq]; rfl)
      have hok := Sh.after_ok L Sh.first Sh.first_ok m
      generalize Sh.words ((L.drop q).take 64) 64 = W at HW hWl hWb HA
      have HQ := Lib.hid hq
      clear sl hblk hrd hq
      go_wp2_with fail
      refine HW.out.mono ?_
      rintro e w3 ⟨rfl, hb3⟩
      have hO3 := hO.below hb3 hO.lt
      have hK3 := hK.below hb3 hK.lt
      have hS3 := hS.below hb3 hS.lt
      have hR3 := own_up2 hRow hb3
      have hbw3 := hbw.trans (hb3.mono hbw.size)
      have hs64 : (Tryd.prog.info? 69).map (·.size) = some (arrU W).size := by rw [arrU_size, hWl]; exact wordsSize
      clear hO hK hS hRow hbw hb3 HW
      go_wp2_with (first
        | (refine wpList_store_row rfl 69 (.tmp 7) (.tmp 37) rfl w3.heap.size (arrU W) rfl rfl 69 (arrU (List.replicate 64 0)) (heap_alloc_new w3 _) hs64 (by rw [arrU_size, arrU_size, hWl]; rfl) (arrU_one _) ?_
           rw [World.setRow_alloc_new])
        | fail)
      have hO4 := hO3.alloc (.cells (arrU W) 69)
      have hK4 := hK3.alloc (.cells (arrU W) 69)
      have hS4 := hS3.alloc (.cells (arrU W) 69)
      have hW4 : Held (w3.alloc (.cells (arrU W) 69)) w3.heap.size 69 (arrU W) := Held.new _ _ _
      have hR4 := own_up2 hR3 ((Below.refl _ w3).alloc (Nat.le_refl _) (.cells (arrU W) 69))
      have hbw4 : Below w.heap.size w (w3.alloc (.cells (arrU W) 69)) := hbw3.alloc hbw3.size _
      generalize w3.alloc (.cells (arrU W) 69) = w4 at hO4 hK4 hS4 hW4 hR4 hbw4 ⊢
      generalize w3.heap.size = gW at hW4 ⊢
      clear hO3 hK3 hS3 hR3 hbw3 hs64
      generalize Sh.after L Sh.first m = s at hS4 hok HA
      have d0 : w4.cell? ⟨w.heap.size + 2, 0, none⟩ = some (.int .u32 (s.a : Nat)) := hS4.cell 0
      have d1 : w4.cell? ⟨w.heap.size + 2, 1, none⟩ = some (.int .u32 (s.b : Nat)) := hS4.cell 1
      have d2 : w4.cell? ⟨w.heap.size + 2, 2, none⟩ = some (.int .u32 (s.c : Nat)) := hS4.cell 2
      have d3 : w4.cell? ⟨w.heap.size + 2, 3, none⟩ = some (.int .u32 (s.d : Nat)) := hS4.cell 3
      have d4 : w4.cell? ⟨w.heap.size + 2, 4, none⟩ = some (.int .u32 (s.e : Nat)) := hS4.cell 4
      have d5 : w4.cell? ⟨w.heap.size + 2, 5, none⟩ = some (.int .u32 (s.f : Nat)) := hS4.cell 5
      have d6 : w4.cell? ⟨w.heap.size + 2, 6, none⟩ = some (.int .u32 (s.g : Nat)) := hS4.cell 6
      have d7 : w4.cell? ⟨w.heap.size + 2, 7, none⟩ = some (.int .u32 (s.h : Nat)) := hS4.cell 7
      have HWW := Lib.hid (And.intro hWl hWb)
      have HOK := Lib.hid hok
      clear hWl hWb hok
      go_quiet (fail)
      go_wp2
      go_quiet (fail)
      go_wp2
      go_loopw [8, 9, 10, 11, 12, 13, 14, 15, 16] (fun u8 u9 u10 u11 u12 u13 u14 u15 u16 wr => ∃ (i n : Nat) (t : Sh.St), i ≤ 64 ∧ t = Sh.rounds W s i ∧ u8 = .int .u32 (t.a : Nat) ∧ u9 = .int .u32 (t.b : Nat) ∧ u10 = .int .u32 (t.c : Nat) ∧ u11 = .int .u32 (t.d : Nat) ∧ u12 = .int .u32 (t.e : Nat) ∧ u13 = .int .u32 (t.f : Nat) ∧ u14 = .int .u32 (t.g : Nat) ∧ u15 = .int .u32 (t.h : Nat) ∧ u16 = .int .i64 i ∧ wr = w4.drewN n) (fun _ _ _ _ _ _ _ _ i _ => 64 - (intOf i).toNat)
      case atStart => exact ⟨0, _, s, by omega, rfl, rfl, rfl, rfl, rfl, rfl, rfl, rfl, rfl, rfl, drewN_add _ _ _⟩
      case round =>
        obtain ⟨i, n, t, hi, ht, rfl, rfl, rfl, rfl, rfl, rfl, rfl, rfl, rfl, hwr⟩ := hrel
        have hbe : Below w4.heap.size w4 wr := by rw [hwr]; exact below_drewN (Below.refl _ w4) _
        have HWR := Lib.hid hwr
        clear d0 d1 d2 d3 d4 d5 d6 d7
        by_cases hlt2 : i < 64
        · obtain ⟨x, hx⟩ : ∃ x, W[i]? = some x := ⟨_, List.getElem?_eq_getElem (by rw [HWW.out.1]; exact hlt2)⟩
          have hxl := HWW.out.2 x (List.mem_of_getElem? hx)
          have c1 : wr.cell? ⟨w.heap.size + 1, i, none⟩ = some (.int .u32 (Sh.kTab.getD i 0 : Nat)) := ((hK4.below hbe hK4.lt).cell i).trans (arrU_at _ _ _ (by rw [List.getD, List.getElem?_eq_getElem (show i < Sh.kTab.length from hlt2)]; rfl))
          have c2 := ((hW4.below hbe hW4.lt).cell i).trans (arrU_at _ _ _ hx)
          have hkl := kTab_lt i
          have HN := Lib.hid (show Sh.rounds W s (i + 1) = Sh.round t (Sh.kTab.getD i 0) x by rw [ht]; show Sh.round _ _ _ = _; rw [List.getD, List.getD, hx]; rfl)
          have hok := ok_parts (show t.ok by rw [ht]; exact Sh.rounds_ok W s HOK.out i)
          generalize Sh.kTab.getD i 0 = k at c1 hkl HN
          obtain ⟨qa, qb, qc, qd, qe, qf, qg, qh⟩ := t
          simp only at hok
          obtain ⟨ha, hb', hc, hd, he, hf, hg, hh⟩ := hok
          have R6 := Lib.hid (right_6 qe he)
          have R11 := Lib.hid (right_11 qe he)
          have R25 := Lib.hid (right_25 qe he)
          have R2 := Lib.hid (right_2 qa ha)
          have R13 := Lib.hid (right_13 qa ha)
          have R22 := Lib.hid (right_22 qa ha)
          have P1 := Lib.hid (Sig1_plain qe he)
          have P0 := Lib.hid (Sig0_plain qa ha)
          have PC := Lib.hid (chO_plain qe qf qg he hf hg)
          have PM := Lib.hid (majO_plain qa qb qc ha hb' hc)
          obtain ⟨X, hX⟩ : ∃ X, X = (qh + Sh.Sig1 qe + Sh.ch qe qf qg + k + x) % 4294967296 := ⟨_, rfl⟩
          obtain ⟨Y, hY⟩ : ∃ Y, Y = (Sh.Sig0 qa + Sh.maj qa qb qc) % 4294967296 := ⟨_, rfl⟩
          have EX := Lib.hid (show ((((qh : Nat) : Int) + ((Sh.Sig1 qe : Nat) : Int) + ((Sh.ch qe qf qg : Nat) : Int) + (k : Int)) % 4294967296 + (x : Int)) % 4294967296 = (X : Int) by omega)
          have EY := Lib.hid (show (((Sh.Sig0 qa : Nat) : Int) + ((Sh.maj qa qb qc : Nat) : Int)) % 4294967296 = (Y : Int) by omega)
          have EZ := Lib.hid (show ((X : Int) + (Y : Int)) % 4294967296 = (((X + Y) % 4294967296 : Nat) : Int) by omega)
          have ED := Lib.hid (show ((qd : Int) + (X : Int)) % 4294967296 = (((qd + X) % 4294967296 : Nat) : Int) by omega)
          have HR2 := Lib.hid (show Sh.round ⟨qa, qb, qc, qd, qe, qf, qg, qh⟩ k x = ⟨(X + Y) % 4294967296, qa, qb, qc, (qd + X) % 4294967296, qe, qf, qg⟩ by subst hX hY; rfl)
          have HX := Lib.hid hX
          have HY := Lib.hid hY
          have HT := Lib.hid ht
          have HH := Lib.hid (And.intro hxl (And.intro hkl hi))
          clear hx hX hY ht hwr hxl hkl hbe hi
          go_wp2
          go_quiet (first
            | (go_at_call 42; (with_reducible exact quiet_drewN (R6.out _)))
            | (go_at_call 42; (with_reducible exact quiet_drewN (R11.out _)))
            | (go_at_call 42; (with_reducible exact quiet_drewN (R25.out _))))
          rw [P1.out, PC.out, EX.out]
          go_wp2_with (first
            | (go_at_call 42; (with_reducible refine (R2.out _).mono ?_); rintro e w' ⟨rfl, k1, rfl⟩)
            | (go_at_call 42; (with_reducible refine (R13.out _).mono ?_); rintro e w' ⟨rfl, k2, rfl⟩)
            | (go_at_call 42; (with_reducible refine (R22.out _).mono ?_); rintro e w' ⟨rfl, k3, rfl⟩)
            | (rw [P0.out])
            | (rw [PM.out])
            | (rw [EY.out])
            | (rw [EZ.out])
            | (rw [ED.out]))
          exact ⟨⟨i + 1, n + (nq + k1 + k2 + k3), ⟨(X + Y) % 4294967296, qa, qb, qc, (qd + X) % 4294967296, qe, qf, qg⟩, by omega, by rw [HN.out, HR2.out], rfl, rfl, rfl, rfl, rfl, rfl, rfl, rfl, by go_num, by rw [HWR.out, drewN_add]⟩, by simp [intOf]; omega⟩
        · obtain rfl : i = 64 := by omega
          have hO6 := hO4.below hbe hO4.lt
          have hK6 := hK4.below hbe hK4.lt
          have hS6 := hS4.below hbe hS4.lt
          have hR6 := own_up2 hR4 hbe
          have hbw6 := hbw4.trans (hbe.mono hbw4.size)
          rw [← ht] at HA
          have hok := ok_parts HOK.out
          have hok2 := ok_parts (show t.ok by rw [ht]; exact Sh.rounds_ok W s HOK.out 64)
          have HT := Lib.hid ht
          clear ht hwr hO4 hK4 hS4 hR4 hW4 hbw4 hbe hlt2 hi
          obtain ⟨qa, qb, qc, qd, qe, qf, qg, qh⟩ := t
          obtain ⟨sa, sb, sc, sd, se, sf, sg, sh⟩ := s
          simp only at hok hok2
          have EA := Lib.hid (show ((sa : Int) + (qa : Int)) % 4294967296 = (((qa + sa) % 4294967296 : Nat) : Int) by omega)
          have EB := Lib.hid (show ((sb : Int) + (qb : Int)) % 4294967296 = (((qb + sb) % 4294967296 : Nat) : Int) by omega)
          have EC := Lib.hid (show ((sc : Int) + (qc : Int)) % 4294967296 = (((qc + sc) % 4294967296 : Nat) : Int) by omega)
          have ED := Lib.hid (show ((sd : Int) + (qd : Int)) % 4294967296 = (((qd + sd) % 4294967296 : Nat) : Int) by omega)
          have EE := Lib.hid (show ((se : Int) + (qe : Int)) % 4294967296 = (((qe + se) % 4294967296 : Nat) : Int) by omega)
          have EF := Lib.hid (show ((sf : Int) + (qf : Int)) % 4294967296 = (((qf + sf) % 4294967296 : Nat) : Int) by omega)
          have EG := Lib.hid (show ((sg : Int) + (qg : Int)) % 4294967296 = (((qg + sg) % 4294967296 : Nat) : Int) by omega)
          have EH := Lib.hid (show ((sh : Int) + (qh : Int)) % 4294967296 = (((qh + sh) % 4294967296 : Nat) : Int) by omega)
          have HOK1 := Lib.hid hok
          have HOK2 := Lib.hid hok2
          clear hok hok2
          have d0 : wr.cell? ⟨w.heap.size + 2, 0, none⟩ = some (.int .u32 (sa : Nat)) := hS6.cell 0
          have d1 : wr.cell? ⟨w.heap.size + 2, 1, none⟩ = some (.int .u32 (sb : Nat)) := hS6.cell 1
          have d2 : wr.cell? ⟨w.heap.size + 2, 2, none⟩ = some (.int .u32 (sc : Nat)) := hS6.cell 2
          have d3 : wr.cell? ⟨w.heap.size + 2, 3, none⟩ = some (.int .u32 (sd : Nat)) := hS6.cell 3
          have d4 : wr.cell? ⟨w.heap.size + 2, 4, none⟩ = some (.int .u32 (se : Nat)) := hS6.cell 4
          have d5 : wr.cell? ⟨w.heap.size + 2, 5, none⟩ = some (.int .u32 (sf : Nat)) := hS6.cell 5
          have d6 : wr.cell? ⟨w.heap.size + 2, 6, none⟩ = some (.int .u32 (sg : Nat)) := hS6.cell 6
          have d7 : wr.cell? ⟨w.heap.size + 2, 7, none⟩ = some (.int .u32 (sh : Nat)) := hS6.cell 7
          have f0 := hS6.frozen 0
          have f1 := hS6.frozen 1
          have f2 := hS6.frozen 2
          have f3 := hS6.frozen 3
          have f4 := hS6.frozen 4
          have f5 := hS6.frozen 5
          have f6 := hS6.frozen 6
          have f7 := hS6.frozen 7
          go_wp2_with (first
            | (rw [EA.out])
            | (rw [EB.out])
            | (rw [EC.out])
            | (rw [ED.out])
            | (rw [EE.out])
            | (rw [EF.out])
            | (rw [EG.out])
            | (rw [EH.out]))
          refine ⟨⟨m + 1, q + 64, by omega, by rw [HQ.out]; omega, by go_num, set8_far hO6 (by omega) _ _ _ _ _ _ _ _, set8_far hK6 (by omega) _ _ _ _ _ _ _ _, ?_, set8_row hR6 (fun b hb => by have := (hR6.lt b hb).1; omega) _ _ _ _ _ _ _ _, set8_below hbw6 (by omega) _ _ _ _ _ _ _ _⟩, by simp [intOf]; omega⟩
          rw [HA.out]
          exact set8_held' ⟨sa, sb, sc, sd, se, sf, sg, sh⟩ _ hS6 (add_cast _ _) (add_cast _ _) (add_cast _ _) (add_cast _ _) (add_cast _ _) (add_cast _ _) (add_cast _ _) (add_cast _ _)
    · obtain rfl : m = M := by omega
      generalize Sh.after L Sh.first m = st at hS HL
      obtain ⟨q8, hq8⟩ : ∃ q8, 64 * m = q8 := ⟨_, rfl⟩
      rw [hq8] at hq hRow
      subst hq
      clear hRow
      go_wp2
      have hO6 := hO.alloc (.cells (arr8 (List.replicate 32 0)) 35)
      have hS6 := hS.alloc (.cells (arr8 (List.replicate 32 0)) 35)
      have hT6 : Held (wr.alloc (.cells (arr8 (List.replicate 32 0)) 35)) wr.heap.size 35 (arr8 (fillD (Sh.outOf st) 0)) := Held.new wr _ _
      have hbw6 : Below w.heap.size w (wr.alloc (.cells (arr8 (List.replicate 32 0)) 35)) := hbw.alloc hbw.size _
      have hlO := hO.lt
      have hlS := hS.lt
      obtain ⟨gO, hgO⟩ : ∃ gO, wr.heap.size = gO := ⟨_, rfl⟩
      rw [hgO] at hT6 hlO hlS ⊢
      clear hO hS hK hbw hgO hlt hm
      go_loopw [20] (fun i wx => ∃ (a : Nat), a ≤ 8 ∧ i = .int .i64 a ∧ Held wx w.heap.size 35 (arr8 (List.replicate 32 0)) ∧ Held wx (w.heap.size + 2) 25 (arrU st.list) ∧ Held wx gO 35 (arr8 (fillD (Sh.outOf st) (4 * a))) ∧ Below w.heap.size w wx) (fun i _ => 8 - (intOf i).toNat)
      case atStart => exact ⟨0, by omega, rfl, hO6, hS6, hT6, hbw6⟩
      case round =>
        clear hO6 hS6 hT6 hbw6
        obtain ⟨a, ha, rfl, hO, hS, hT, hbw⟩ := hrel
        by_cases hlt : a < 8
        · go_wp2
          go_loopw [21] (fun i wx => ∃ (b : Nat), b ≤ 4 ∧ i = .int .i64 b ∧ Held wx w.heap.size 35 (arr8 (List.replicate 32 0)) ∧ Held wx (w.heap.size + 2) 25 (arrU st.list) ∧ Held wx gO 35 (arr8 (fillD (Sh.outOf st) (4 * a + b))) ∧ Below w.heap.size w wx) (fun i _ => 4 - (intOf i).toNat)
          case atStart => exact ⟨0, by omega, rfl, hO, hS, hT, hbw⟩
          case round =>
            clear hO hS hT hbw
            obtain ⟨b, hb, rfl, hO, hS, hT, hbw⟩ := hrel
            by_cases hlt2 : b < 4
            · obtain ⟨j, hj⟩ : ∃ j, 4 * a + b = j := ⟨_, rfl⟩
              have hj32 : j < 32 := by omega
              obtain ⟨x, hx, hx0, hset⟩ := fillD_step (Sh.outOf st) rfl j hj32
              obtain ⟨sh, hsh⟩ : ∃ sh, 24 - 8 * b = sh := ⟨_, rfl⟩
              have e1 : 4 * (a : Int) + (b : Int) = (j : Int) := by omega
              have e3 : 24 - 8 * (b : Int) = (sh : Int) := by omega
              have hsh2 : sh < 32 := by omega
              have c1 := (hS.cell a).trans (arrU_at _ _ _ (show st.list[a]? = some (st.list.getD a 0) by rw [List.getD, List.getElem?_eq_getElem (show a < st.list.length from hlt)]; rfl))
              have f2 := hT.frozen j
              have hxe : x = st.list.getD a 0 / 2 ^ sh % 256 := by
                have h1 := out_at st a b hlt hlt2
                rw [hj, hx, hsh] at h1
                exact Option.some.inj h1
              have HX := Lib.hid (show ((st.list.getD a 0 : Nat) : Int) / 2 ^ sh % 256 = (x : Int) by rw [hxe]; simp)
              have HS := Lib.hid hset
              have HJ := Lib.hid hj
              rw [hj] at hT
              have c2 := (hT.cell j).trans (arr8_at _ _ _ hx0)
              clear hj hsh hxe hx hx0 hset
              generalize st.list.getD a 0 = y at c1 HX
              go_wp2_with (rw [HX.out])
              refine ⟨⟨b + 1, by omega, by go_num, hO.far (by simp; omega) _, hS.far (by simp; omega) _, ?_, hbw.setCell (p := ⟨gO, j, none⟩) (by simp; omega) _⟩, by simp [intOf]; omega⟩
              have := hT.set j (.int .u8 (x : Nat))
              rw [arr8_set, HS.out] at this
              rw [show 4 * a + (b + 1) = j + 1 by have := HJ.out; omega]
              exact this
            · obtain rfl : b = 4 := by omega
              go_wp2
              refine ⟨⟨a + 1, by omega, by go_num, hO, hS, by rw [show 4 * (a + 1) = 4 * a + 4 by omega]; exact hT, hbw⟩, by simp [intOf]; omega⟩
        · obtain rfl : a = 8 := by omega
          have e32 : fillD (Sh.outOf st) (4 * 8) = Sh.digest bs := by rw [HL.out]; rfl
          rw [e32] at hT
          have hdl : (Sh.digest bs).length = 32 := Sh.digest_len bs
          obtain ⟨Dg, hDg⟩ : ∃ Dg, Sh.digest bs = Dg := ⟨_, rfl⟩
          have HDG := Lib.hid hDg
          rw [hDg] at hT hdl
          clear hDg HL e32
          have hs32 : (Tryd.prog.info? 35).map (·.size) = some (arr8 Dg).size := by rw [arr8_size, hdl]; exact hashSizeN
          go_wp2_with (first
            | (refine wpList_load_row rfl 35 (.tmp 19) rfl gO rfl 35 (arr8 Dg) (0, 0) _ hT Tryd.underlying35 rfl hs32 ?_)
            | (refine wpList_store_row rfl 35 (.tmp 2) (.tmp 204) rfl w.heap.size (arr8 Dg) rfl rfl 35 (arr8 (List.replicate 32 0)) hO hs32 (by rw [arr8_size, arr8_size, hdl]; rfl) (arr8_one _) ?_))
          refine bodyPost_ret (v := .agg (arr8 Dg)) (results_cell_row Tryd.results16 _ _ w.heap.size 35 (arr8 Dg) (0, 0) _ rfl (setRow_heap _ _ _ _ _ _ hO) Tryd.underlying35 rfl hs32) rfl ⟨by rw [HDG.out], below_setRow hbw _ _ (Nat.le_refl _)⟩
end Go.Proofs.YtjkhkgdijnhdmaaDoor
