/- pdu.bits: its iterator, which never ends. -/
import Derived.Test.YtflbiichdjhaeaaDoorPduPack
import Derived.Test.YtflbiichdjhaeaaDoorSeqW
import Derived.Test.YtflbiichdjhaeaaDoorOrders
import Derived.Test.YtflbiichdjhaeaaDoorKeep
import Derived.Test.YtflbiichdjhaeaaDoorScope
import Derived.Test.YtflbiichdjhaeaaDoorBoxes
import Derived.LoopIn
namespace Go.Proofs.YtflbiichdjhaeaaDoor
open Go.RowKit
attribute [local go_sem] Oper.semAt_some

/-- The k-th bit, and which it is. -/
def bitV (b : List Int) (k : Nat) : Array Value := #[.int .i64 k, .bool (bitAt b k)]

theorem and1_all : ∀ y : Fin 256, (Go.bits BinOp.and IntKind.u8 (y.1 : Int) 1 == 1) = decide ((y.1 : Int) % 2 = 1) := by decide +kernel
theorem and1 (y : Int) (h0 : 0 ≤ y) (h : y < 256) : (Go.bits BinOp.and IntKind.u8 y 1 == 1) = decide (y % 2 = 1) := by
  obtain ⟨n, rfl⟩ := Int.eq_ofNat_of_zero_le h0
  exact and1_all ⟨n, by omega⟩
theorem shr_small (x : Int) (r : Nat) (h0 : 0 ≤ x) (h : x < 256) : 0 ≤ x / (2 : Int) ^ r ∧ x / (2 : Int) ^ r < 256 := by
  have hp : (0 : Int) < 2 ^ r := Int.pow_pos (by omega)
  exact ⟨Int.ediv_nonneg h0 (by omega), Int.lt_of_le_of_lt (Int.ediv_le_self _ h0) h⟩

set_option maxRecDepth 100000 in
set_option maxHeartbeats 1000000 in
theorem bits1_in (F : Fence) (n : Nat) (hF : F.fn 61) (hro : F.round = none) (hn : 1 ≤ n) (l Bb n₀ n₁ N : Nat) (A : Option Addr) (nb cb : Nat) (b : List Int) (hb : b.length = nb) (hbs : ∀ x ∈ b, 0 ≤ x ∧ x < 256) (hN : N ≤ 1000000) (J Jx : Nat → World → Prop)
    (hL : ∀ s X, J s X → s ≤ N)
    (hY : ∀ k X, J k X → YieldAt F (n - 1) Tryd.prog l (bitV b k) X fun e X' =>
      (e = .returned (.bool true) ∧ J (k + 1) X' ∧ Kx n₀ n₁ X X') ∨ (e = .returned (.bool false) ∧ Jx (k + 1) X'))
    (W : World) (hBb : Bb < n₁) (hBb' : Bb ≠ n₀) (hc : W.cell? ⟨Bb, 0, none⟩ = some (.slice A nb cb)) (hR : RdI W n₀ .u8 A b) (h0 : J 0 W) :
    CallsIn F n Tryd.prog 61 #[.func (.yield l) #[] #[], .pointer (some ⟨Bb, 0, none⟩)] W fun e W' => (∃ v, e = .returned v) ∧ ∃ k, Jx k W' := by
  have HB := Lib.hid hb
  clear hb
  refine callsIn_of_wp Tryd.func61 rfl hF ?_ hro
  simp only [Tryd.ntmps61, List.size_toArray, List.length_cons, List.length_nil, Nat.reduceAdd, Nat.reduceSub, Array.replicate_succ, Array.replicate_zero, List.push_toArray, List.append_toArray, List.nil_append, List.cons_append]
  gi_wp2
  gi_loopw [3] (fun i wr => ∃ k : Nat, i = .int .i64 k ∧ J k wr ∧ Kx n₀ n₁ W wr) (fun i _ => N + 1 - (intOf i).toNat)
  case atStart => exact ⟨0, rfl, h0, Kx.refl _ _ _⟩
  case round =>
    obtain ⟨k, rfl, hJk, hnx⟩ := hrel
    have hkN := hL _ _ hJk
    have c1 := (hnx.cell (p := ⟨Bb, 0, none⟩) hBb' hBb).trans hc
    obtain ⟨q, r, hkq, hr8⟩ : ∃ q r : Nat, k = 8 * q + r ∧ r < 8 := ⟨k / 8, k % 8, by omega, by omega⟩
    have HQ := Lib.hid hkq
    have q1 : (k : Int) / 8 = (q : Int) := by omega
    have q2 : (k : Int).tdiv 8 = (q : Int) := by rw [Int.tdiv_eq_ediv_of_nonneg (by omega)]; exact q1
    have r1 : (k : Int) % 8 = (r : Int) := by omega
    have r2 : (k : Int).tmod 8 = (r : Int) := by rw [Int.tmod_eq_emod_of_nonneg (by omega)]; exact r1
    obtain ⟨fn, tmps, assign, body, hy, hRR⟩ := hY k wr hJk
    unfold bitV at hy
    by_cases hlt : q < nb
    · obtain ⟨g, off, x, rfl, hg, hx, hc⟩ : ∃ g off x, A = some ⟨g, off, none⟩ ∧ g < n₀ ∧ b[q]? = some x ∧ wr.cell? ⟨g, off + q, none⟩ = some (.int .u8 x) := by
        obtain ⟨g, off, e, h1, h2⟩ := (hR.below hnx.1) (by rw [HB.out]; omega)
        exact ⟨g, off, _, e, h1, List.getElem?_eq_getElem (by rw [HB.out]; exact hlt), h2 q _ (List.getElem?_eq_getElem (by rw [HB.out]; exact hlt))⟩
      have hxb := hbs x (List.mem_of_getElem? hx)
      have ha := and1 (x / 2 ^ r) (shr_small x r hxb.1 hxb.2).1 (shr_small x r hxb.1 hxb.2).2
      rw [bitAt_in b k x (by rw [show k / 8 = q by omega]; exact hx), show k % 8 = r by omega] at hy
      clear hkq hbs
      rw [← ha] at hy
      clear ha
      obtain ⟨z, hz⟩ : ∃ z, (Go.bits BinOp.and IntKind.u8 (x / 2 ^ r) 1 == 1) = z := ⟨_, rfl⟩
      rw [hz] at hy
      gi_wp2
      refine hRR.mono ?_
      rintro e W3 (⟨rfl, hJ3, hk3⟩ | ⟨rfl, hJx3⟩)
      · gi_wp2
        exact ⟨⟨k + 1, by go_num, hJ3, hnx.trans hk3⟩, by simp [intOf]; omega⟩
      · gi_wp2
        refine bodyPost_ret (results_none rfl _ _ _) rfl ?_
        exact ⟨⟨_, rfl⟩, _, hJx3⟩
    · rw [bitAt_out b k (by rw [HB.out]; omega)] at hy
      clear hkq hbs
      gi_wp2
      refine hRR.mono ?_
      rintro e W3 (⟨rfl, hJ3, hk3⟩ | ⟨rfl, hJx3⟩)
      · gi_wp2
        exact ⟨⟨k + 1, by go_num, hJ3, hnx.trans hk3⟩, by simp [intOf]; omega⟩
      · gi_wp2
        refine bodyPost_ret (results_none rfl _ _ _) rfl ?_
        exact ⟨⟨_, rfl⟩, _, hJx3⟩

/-- The iterator's contract. -/
theorem bits_seq (F : Fence) (n : Nat) (hF : F.fn 61) (hro : F.round = none) (hn : 1 ≤ n) (Bb n₀ n₁ N : Nat) (A : Option Addr) (nb cb : Nat) (b : List Int) (hb : b.length = nb) (hbs : ∀ x ∈ b, 0 ≤ x ∧ x < 256) (hN : N ≤ 1000000) (w : World)
    (hBb : Bb < n₁) (hBb' : Bb ≠ n₀) (h0n : n₀ ≤ n₁) (h1n : n₁ ≤ w.heap.size) (hc : w.cell? ⟨Bb, 0, none⟩ = some (.slice A nb cb)) (hR : RdI w n₀ .u8 A b) :
    SeqW F n Tryd.prog 61 #[.pointer (some ⟨Bb, 0, none⟩)] (bitV b) (Kx n₀ n₁) (fun _ _ => False) (fun k => k ≤ N) (fun _ => True) (fun _ => False) (fun _ => True) w := by
  intro l J Jx W hW _ _ hL hY h0
  refine (bits1_in F n hF hro hn l Bb n₀ n₁ N A nb cb b hb hbs hN J Jx hL (fun k X hj => hY k X trivial hj) W hBb hBb' ((hW.cell (p := ⟨Bb, 0, none⟩) (by simp; omega)).trans hc) (hR.below (hW.mono (by omega))) h0).mono ?_
  rintro e W' ⟨hv, k, hk⟩
  exact ⟨hv, .inr ⟨k, trivial, hk⟩⟩
set_option maxHeartbeats 1000000 in
theorem bits_in (F : Fence) (n : Nat) (hF : F.fn 51) (hro : F.round = none) (A : Option Addr) (len cap : Nat) (w : World) :
    CallsIn F n Tryd.prog 51 #[.slice A len cap] w fun e w' => e = .returned (.func (.func 61) #[] #[.pointer (some ⟨w.heap.size, 0, none⟩)]) ∧ w' = w.alloc (.cells #[.slice A len cap] 28) := by
  refine callsIn_of_wp Tryd.func51 rfl hF ?_ hro
  simp only [Tryd.ntmps51, List.size_toArray, List.length_cons, List.length_nil, Nat.reduceAdd, Nat.reduceSub, Array.replicate_succ, Array.replicate_zero, List.push_toArray, List.append_toArray, List.nil_append, List.cons_append]
  gi_wp2
  go_ret
  exact ⟨rfl, rfl⟩
end Go.Proofs.YtflbiichdjhaeaaDoor
