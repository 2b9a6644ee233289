/- kilowattref04.right, Const, First, message: the document's own words. -/
import Derived.Test.YtjkhkgdijnhdmaaDoorShaSum
namespace Go.Proofs.YtjkhkgdijnhdmaaDoor
open Go.RowKit

theorem or_plain (x n m : Nat) (p q : Int) (hx : x < 4294967296) (hp : p = (2 : Int) ^ m) (hq : q = (2 : Int) ^ n) (hm : m = 32 - n) : bits BinOp.or IntKind.u32 ((x : Int) / q) ((x : Int) * p % 4294967296) = ((Sh.rotr x n : Nat) : Int) := by
  subst hp hq hm
  have e1 : (x : Int) * 2 ^ (32 - n) % 4294967296 = ((x * 2 ^ (32 - n) % 4294967296 : Nat) : Int) := by simp
  have e2 : (x : Int) / 2 ^ n = ((x / 2 ^ n : Nat) : Int) := by simp
  rw [e1, e2, u32_or_nat _ _ (Nat.lt_of_le_of_lt (Nat.div_le_self _ _) hx) (by omega), Nat.or_comm]
  rfl
theorem drewN_add (w : World) (a b : Nat) : (w.drewN a).drewN b = w.drewN (a + b) := by simp [World.drewN, Nat.add_assoc]
/-- A call that only draws, in a region that only reads. -/
theorem quiet_add_drewN {P : Program} {f : FuncId} {args : Array Value} {w : World} {a n : Nat} {v : Value}
    (h : Calls P f args (w.drewN (a + n)) fun e w' => e = .returned v ∧ ∃ k, w' = (w.drewN (a + n)).drewN k) :
    Calls P f args (w.drewN (a + n)) fun e w'' => e = .returned v ∧ ∃ m, w'' = w.drewN (a + m) :=
  h.mono fun _ _ ⟨he, k, hk⟩ => ⟨he, n + k, by rw [hk, drewN_add, Nat.add_assoc]⟩
theorem right_2 (x : Nat) (hx : x < 4294967296) (w : World) : Calls Tryd.prog 42 #[.int .u32 x, .int .i64 2] w fun e w' => e = .returned (.int .u32 (Sh.rotr x 2 : Nat)) ∧ ∃ k, w' = w.drewN k := by
  have H := or_plain x 2 30 1073741824 4 hx (by decide) (by decide) rfl
  go_in; go_wp2; go_quiet (fail); go_wp2; go_ret; exact ⟨rfl, nq, rfl⟩
theorem right_6 (x : Nat) (hx : x < 4294967296) (w : World) : Calls Tryd.prog 42 #[.int .u32 x, .int .i64 6] w fun e w' => e = .returned (.int .u32 (Sh.rotr x 6 : Nat)) ∧ ∃ k, w' = w.drewN k := by
  have H := or_plain x 6 26 67108864 64 hx (by decide) (by decide) rfl
  go_in; go_wp2; go_quiet (fail); go_wp2; go_ret; exact ⟨rfl, nq, rfl⟩
theorem right_7 (x : Nat) (hx : x < 4294967296) (w : World) : Calls Tryd.prog 42 #[.int .u32 x, .int .i64 7] w fun e w' => e = .returned (.int .u32 (Sh.rotr x 7 : Nat)) ∧ ∃ k, w' = w.drewN k := by
  have H := or_plain x 7 25 33554432 128 hx (by decide) (by decide) rfl
  go_in; go_wp2; go_quiet (fail); go_wp2; go_ret; exact ⟨rfl, nq, rfl⟩
theorem right_11 (x : Nat) (hx : x < 4294967296) (w : World) : Calls Tryd.prog 42 #[.int .u32 x, .int .i64 11] w fun e w' => e = .returned (.int .u32 (Sh.rotr x 11 : Nat)) ∧ ∃ k, w' = w.drewN k := by
  have H := or_plain x 11 21 2097152 2048 hx (by decide) (by decide) rfl
  go_in; go_wp2; go_quiet (fail); go_wp2; go_ret; exact ⟨rfl, nq, rfl⟩
theorem right_13 (x : Nat) (hx : x < 4294967296) (w : World) : Calls Tryd.prog 42 #[.int .u32 x, .int .i64 13] w fun e w' => e = .returned (.int .u32 (Sh.rotr x 13 : Nat)) ∧ ∃ k, w' = w.drewN k := by
  have H := or_plain x 13 19 524288 8192 hx (by decide) (by decide) rfl
  go_in; go_wp2; go_quiet (fail); go_wp2; go_ret; exact ⟨rfl, nq, rfl⟩
theorem right_17 (x : Nat) (hx : x < 4294967296) (w : World) : Calls Tryd.prog 42 #[.int .u32 x, .int .i64 17] w fun e w' => e = .returned (.int .u32 (Sh.rotr x 17 : Nat)) ∧ ∃ k, w' = w.drewN k := by
  have H := or_plain x 17 15 32768 131072 hx (by decide) (by decide) rfl
  go_in; go_wp2; go_quiet (fail); go_wp2; go_ret; exact ⟨rfl, nq, rfl⟩
theorem right_18 (x : Nat) (hx : x < 4294967296) (w : World) : Calls Tryd.prog 42 #[.int .u32 x, .int .i64 18] w fun e w' => e = .returned (.int .u32 (Sh.rotr x 18 : Nat)) ∧ ∃ k, w' = w.drewN k := by
  have H := or_plain x 18 14 16384 262144 hx (by decide) (by decide) rfl
  go_in; go_wp2; go_quiet (fail); go_wp2; go_ret; exact ⟨rfl, nq, rfl⟩
theorem right_19 (x : Nat) (hx : x < 4294967296) (w : World) : Calls Tryd.prog 42 #[.int .u32 x, .int .i64 19] w fun e w' => e = .returned (.int .u32 (Sh.rotr x 19 : Nat)) ∧ ∃ k, w' = w.drewN k := by
  have H := or_plain x 19 13 8192 524288 hx (by decide) (by decide) rfl
  go_in; go_wp2; go_quiet (fail); go_wp2; go_ret; exact ⟨rfl, nq, rfl⟩
theorem right_22 (x : Nat) (hx : x < 4294967296) (w : World) : Calls Tryd.prog 42 #[.int .u32 x, .int .i64 22] w fun e w' => e = .returned (.int .u32 (Sh.rotr x 22 : Nat)) ∧ ∃ k, w' = w.drewN k := by
  have H := or_plain x 22 10 1024 4194304 hx (by decide) (by decide) rfl
  go_in; go_wp2; go_quiet (fail); go_wp2; go_ret; exact ⟨rfl, nq, rfl⟩
theorem right_25 (x : Nat) (hx : x < 4294967296) (w : World) : Calls Tryd.prog 42 #[.int .u32 x, .int .i64 25] w fun e w' => e = .returned (.int .u32 (Sh.rotr x 25 : Nat)) ∧ ∃ k, w' = w.drewN k := by
  have H := or_plain x 25 7 128 33554432 hx (by decide) (by decide) rfl
  go_in; go_wp2; go_quiet (fail); go_wp2; go_ret; exact ⟨rfl, nq, rfl⟩

set_option maxHeartbeats 2000000 in
theorem const_ref (w : World) : Calls Tryd.prog 21 #[] w fun e w' => e = .returned (.slice (some ⟨w.heap.size, 0, none⟩) 64 64) ∧ w' = w.alloc (.cells (arrU Sh.kTab) 25) := by
  go_in
  go_wp2
  go_ret
  exact ⟨rfl, rfl⟩
theorem first_ref (w : World) : Calls Tryd.prog 22 #[] w fun e w' => e = .returned (.slice (some ⟨w.heap.size, 0, none⟩) 8 8) ∧ w' = w.alloc (.cells (arrU Sh.first.list) 25) := by
  go_in
  go_wp2
  go_ret
  exact ⟨rfl, rfl⟩
set_option maxRecDepth 100000 in
set_option maxHeartbeats 4000000 in
theorem message_ref (A : Option Addr) (cap : Nat) (bs : List Nat) (w : World) (hR : SlI w w.heap.size .u8 A bs.length cap (nI bs)) (hmax : bs.length ≤ 999000) :
    Calls Tryd.prog 40 #[.slice A bs.length cap] w fun e w' => ∃ v, e = .returned v ∧ w'.ownsRow w.heap.size 5 1 v (bs.length + (Sh.padOf bs.length).length) ((nI (bs ++ Sh.padOf bs.length)).map (Value.int .u8)) ∧ Below w.heap.size w w' := by
  obtain ⟨i0, hi, hz0, hz1, hz2⟩ := info_parts infoB
  have HRM := Lib.hid (show 0 + bs.length ≤ maxLen ∧ (0 + bs.length) * 1 ≤ 140737488355328 ∧ bs.length + 1 ≤ maxLen ∧ (bs.length + 1) * 1 ≤ 140737488355328 by unfold maxLen; omega)
  go_in
  go_wp2_with (first
    | ((with_reducible refine at_append ?_); refine wpList_append_sl w rfl (.tmp 6) (.tmp 7) 27 rfl w.heap.size 5 i0 (.int .u8 0) 1 Tryd.underlying27 hi hz0 hz1 hz2 rfl (.slice none 0 0) 0 [] rfl (World.ownsRow_nil _ _ _ _) _ .u8 A bs.length cap (nI bs) rfl hR HRM.out.1 HRM.out.2.1 (Nat.le_refl _) ?_
       intro v1 w1 hO1 hg1 hv1
       simp only [Nat.zero_add, List.nil_append] at hO1
       obtain ⟨A1, c1, rfl, hs1⟩ := SlI.of_own hO1
       have hb1 : Below w.heap.size w w1 := (Below.refl _ w).grown hg1 (Nat.le_refl _) (fun k e => by simp [Value.ownBlock] at e)
       have hz1' := hb1.size
       have hO1' := hO1.kept (World.grownBy_alloc w1 (.cells #[.int .u8 128] 5) none) (by simp [Value.ownBlock]; cases A1 <;> simp)
       have hl1 : SlI (w1.alloc (.cells #[.int .u8 128] 5)) (w1.alloc (.cells #[.int .u8 128] 5)).heap.size .u8 (some ⟨w1.heap.size, 0, none⟩) 1 1 [128] := SlI.lit_at rfl rfl rfl (by omega)
       have hzz : w.heap.size ≤ (w1.alloc (.cells #[.int .u8 128] 5)).heap.size := by simp; omega)
    | ((with_reducible refine at_append ?_); refine wpList_append_sl (w1.alloc (.cells #[.int .u8 128] 5)) rfl (.tmp 9) (.tmp 10) 27 rfl w.heap.size 5 i0 (.int .u8 0) 1 Tryd.underlying27 hi hz0 hz1 hz2 rfl (.slice A1 bs.length c1) bs.length _ rfl hO1' _ .u8 (some ⟨w1.heap.size, 0, none⟩) 1 1 [128] rfl hl1 HRM.out.2.2.1 HRM.out.2.2.2 hzz ?_
       intro v2 w2 hO2 hg2 hv2
       rw [← List.map_append, show nI bs ++ [128] = nI (bs ++ padN 0) by simp [nI, padN]] at hO2
       obtain ⟨A2, c2, rfl, hs2⟩ := SlI.of_own hO2
       have hb2 : Below w.heap.size w w2 := (hb1.alloc hz1' _).grown hg2 hzz (fun k e => (hO1'.lt k e).1)))
  clear hR hO1 hO1' hl1 hzz hg1 hg2 hv1 hv2 hs1 hs2 hb1 hz1'
  obtain ⟨E, hE⟩ : ∃ E, Sh.ends bs.length = E := ⟨_, rfl⟩
  have hE64 : E < 64 := by rw [← hE]; unfold Sh.ends; omega
  have HE := Lib.hid hE
  have HM := Lib.hid (show ∀ j, j ≤ E → ((bs.length + (1 + j)) % 64 = 56 ↔ j = E) by
    intro j hj; rw [← hE] at hj ⊢; unfold Sh.ends at hj ⊢; omega)
  clear hE
  go_loopw [3] (fun u wr => ∃ (j : Nat) (A : Option Addr) (c : Nat), j ≤ E ∧ u = .slice A (bs.length + (1 + j)) c ∧ wr.ownsRow w.heap.size 5 1 (.slice A (bs.length + (1 + j)) c) (bs.length + (1 + j)) ((nI (bs ++ padN j)).map (Value.int .u8)) ∧ Below w.heap.size w wr) (fun u _ => bs.length + 100 - lenV u)
  case atStart => exact ⟨0, A2, c2, by omega, rfl, hO2, hb2⟩
  case round =>
    clear hO2 hb2
    obtain ⟨j, A, c, hj, rfl, hO, hbl⟩ := hrel
    have hO' := hO.kept (World.grownBy_alloc wr (.cells #[.int .u8 0] 5) none) (by simp [Value.ownBlock]; cases A <;> simp)
    have hs0 : SlI (wr.alloc (.cells #[.int .u8 0] 5)) (wr.alloc (.cells #[.int .u8 0] 5)).heap.size .u8 (some ⟨wr.heap.size, 0, none⟩) 1 1 [0] := SlI.lit_at rfl rfl rfl (by omega)
    have HRM := Lib.hid (show (bs.length + (1 + j)) + 1 ≤ maxLen ∧ ((bs.length + (1 + j)) + 1) * 1 ≤ 140737488355328 ∧ w.heap.size ≤ (wr.alloc (.cells #[.int .u8 0] 5)).heap.size from ⟨by unfold maxLen; omega, by omega, by have := hbl.size; simp; omega⟩)
    by_cases hlt : j < E
    · have g1 : ((((bs.length : Nat) : Int) + (1 + (j : Int))) % 64 != 56) = true := by
        have hne : (bs.length + (1 + j)) % 64 ≠ 56 := fun h => by have := (HM.out j hj).1 h; omega
        simp; omega
      go_wp2_with ((with_reducible refine at_append ?_); refine wpList_append_sl (wr.alloc (.cells #[.int .u8 0] 5)) rfl (.tmp 16) (.tmp 17) 27 rfl w.heap.size 5 i0 (.int .u8 0) 1 Tryd.underlying27 hi hz0 hz1 hz2 rfl (.slice A (bs.length + (1 + j)) c) (bs.length + (1 + j)) _ rfl hO' _ .u8 (some ⟨wr.heap.size, 0, none⟩) 1 1 [0] rfl hs0 HRM.out.1 HRM.out.2.1 HRM.out.2.2 ?_
                   intro v5 w5 hO5 hg5 hv5)
      go_roundw
      case rel =>
        rw [show bs.length + (1 + j) + 1 = bs.length + (1 + (j + 1)) by omega, ← List.map_append, show nI (bs ++ padN j) ++ [0] = nI (bs ++ padN (j + 1)) by rw [padN_succ]; simp [nI]] at hO5
        obtain ⟨A5, c5, rfl, hs5⟩ := SlI.of_own hO5
        exact ⟨j + 1, A5, c5, by omega, rfl, hO5, (hbl.alloc hbl.size _).grown hg5 (by have := hbl.size; simp; omega) (fun k e => (hO'.lt k e).1)⟩
      case measure =>
        obtain ⟨A5, c5, rfl, hs5⟩ := SlI.of_own (xs := nI (bs ++ padN j) ++ [0]) (by rw [List.map_append]; exact hO5)
        simp [lenV]; omega
    · obtain rfl : j = E := by omega
      have g1 : ((((bs.length : Nat) : Int) + (1 + (j : Int))) % 64 != 56) = false := by
        have heq : (bs.length + (1 + j)) % 64 = 56 := (HM.out j hj).2 rfl
        simp; omega
      go_wp2
      clear hO' hs0 HRM hlt hj g1
      rw [show bs ++ padN j = bs ++ padE bs.length 0 by rw [padE_zero, HE.out]] at hO
      go_loopw [3, 5] (fun u i wr => ∃ (k : Nat) (A : Option Addr) (c : Nat), k ≤ 8 ∧ (∃ z : Int, z = 7 - (k : Int) ∧ i = .int .i64 z) ∧ u = .slice A (bs.length + (1 + j + k)) c ∧ wr.ownsRow w.heap.size 5 1 (.slice A (bs.length + (1 + j + k)) c) (bs.length + (1 + j + k)) ((nI (bs ++ padE bs.length k)).map (Value.int .u8)) ∧ Below w.heap.size w wr) (fun u _ _ => bs.length + 200 - lenV u)
      case atStart => exact ⟨0, A, c, by omega, ⟨7, rfl, rfl⟩, rfl, hO, hbl⟩
      case round =>
        clear hO hbl
        obtain ⟨k, A, c, hk8, ⟨z, hz, rfl⟩, rfl, hO, hbl⟩ := hrel
        by_cases hlt : k < 8
        · obtain ⟨sh, hsh⟩ : ∃ sh : Nat, sh + 8 * k = 56 := ⟨56 - 8 * k, by omega⟩
          obtain ⟨iz, hiz⟩ : ∃ iz : Nat, iz + k = 7 := ⟨7 - k, by omega⟩
          obtain rfl : z = (iz : Int) := by omega
          have hs64 : sh < 64 := by omega
          have h8 : 8 * (iz : Int) = (sh : Int) := by omega
          obtain ⟨X, hX⟩ : ∃ X, X = eightAt (bs.length * 8) k := ⟨_, rfl⟩
          have HP := Lib.hid (show nI (bs ++ padE bs.length k) ++ [(X : Int)] = nI (bs ++ padE bs.length (k + 1)) by rw [padE_succ _ _ hlt, hX]; simp [nI])
          have HX := Lib.hid (show ((bs.length : Nat) : Int) * 8 / 2 ^ sh % 256 = (X : Int) by rw [hX]; exact eight_at _ _ _ hsh)
          have HH := Lib.hid (And.intro hsh hiz)
          clear hsh hz hX hiz
          have hO' := hO.kept (World.grownBy_alloc wr (.cells #[.int .u8 (X : Int)] 5) none) (by simp [Value.ownBlock]; cases A <;> simp)
          have hs0 : SlI (wr.alloc (.cells #[.int .u8 (X : Int)] 5)) (wr.alloc (.cells #[.int .u8 (X : Int)] 5)).heap.size .u8 (some ⟨wr.heap.size, 0, none⟩) 1 1 [(X : Int)] := SlI.lit_at rfl rfl rfl (by omega)
          have HRM := Lib.hid (show (bs.length + (1 + j + k)) + 1 ≤ maxLen ∧ ((bs.length + (1 + j + k)) + 1) * 1 ≤ 140737488355328 ∧ w.heap.size ≤ (wr.alloc (.cells #[.int .u8 (X : Int)] 5)).heap.size from ⟨by unfold maxLen; omega, by omega, by have := hbl.size; simp; omega⟩)
          go_wp2_with (first
            | (rw [HX.out])
            | ((with_reducible refine at_append ?_); refine wpList_append_sl (wr.alloc (.cells #[.int .u8 (X : Int)] 5)) rfl (.tmp 27) (.tmp 33) 27 rfl w.heap.size 5 i0 (.int .u8 0) 1 Tryd.underlying27 hi hz0 hz1 hz2 rfl (.slice A (bs.length + (1 + j + k)) c) (bs.length + (1 + j + k)) _ rfl hO' _ .u8 (some ⟨wr.heap.size, 0, none⟩) 1 1 [(X : Int)] rfl hs0 HRM.out.1 HRM.out.2.1 HRM.out.2.2 ?_
               intro v5 w5 hO5 hg5 hv5))
          go_roundw
          case rel =>
            rw [← List.map_append, HP.out, show bs.length + (1 + j + k) + 1 = bs.length + (1 + j + (k + 1)) by omega] at hO5
            obtain ⟨A5, c5, rfl, hs5⟩ := SlI.of_own hO5
            exact ⟨k + 1, A5, c5, by omega, ⟨_, by have := HH.out; omega, rfl⟩, rfl, hO5, (hbl.alloc hbl.size _).grown hg5 (by have := hbl.size; simp; omega) (fun k e => (hO'.lt k e).1)⟩
          case measure =>
            obtain ⟨A5, c5, rfl, hs5⟩ := SlI.of_own (xs := nI (bs ++ padE bs.length k) ++ [(X : Int)]) (by rw [List.map_append]; exact hO5)
            simp [lenV]; omega
        · obtain rfl : k = 8 := by omega
          obtain rfl : z = -1 := by omega
          rw [padE_end] at hO
          have hpl : (Sh.padOf bs.length).length = 1 + j + 8 := by rw [Sh.padOf_len, HE.out]; omega
          have HPL := Lib.hid hpl
          clear hpl
          go_wp2
          go_ret
          exact ⟨_, rfl, by rw [HPL.out]; exact hO, hbl⟩
end Go.Proofs.YtjkhkgdijnhdmaaDoor
