/- slices.Chunk(b, 2), b of an even length: its iterator's contract. -/
import Derived.Test.YtnnknnaimabehaaPrBytes
namespace Go.Proofs.Ytnnknnaimabehaa
open Go.RowKit Go.Shelf
attribute [local go_sem] Oper.semAt_some

/-- The k-th piece of two. -/
def pieceV (A : Option Addr) {m : Nat} (k : Fin m) : Array Value := #[.slice (A.map fun a => ⟨a.block, a.off + 2 * k.1, none⟩) 2 2]

set_option maxRecDepth 100000 in
set_option maxHeartbeats 4000000 in
theorem chunk1_in (F : Fence) (n : Nat) (hF : F.fn 83) (hro : F.round = none) (hn : 1 ≤ n) (l Bs Bn n₀ : Nat) (A : Option Addr) (len cap m : Nat) (hA : 0 < len → ∃ g off, A = some ⟨g, off, none⟩) (n₁ : Nat) (hreach : len ≤ 1000000) (hm : len = 2 * m) (hcap : len ≤ cap) (J Jx : List (Fin m) → World → Prop) (hJd : ∀ xs X, J xs X → J xs X.drew)
    (hY : ∀ pre x W, J pre W → pre.length < m → YieldAt F (n - 1) Try.prog l (pieceV A x) W fun e W' =>
      (e = .returned (.bool true) ∧ J (pre ++ [x]) W' ∧ Kx n₀ n₁ W W') ∨ (e = .returned (.bool false) ∧ Jx (pre ++ [x]) W'))
    (W : World) (hBs : Bs < n₁) (hBn : Bn < n₁) (hBs' : Bs ≠ n₀) (hBn' : Bn ≠ n₀) (hcs : W.cell? ⟨Bs, 0, none⟩ = some (.slice A len cap)) (hcn : W.cell? ⟨Bn, 0, none⟩ = some (.int .i64 2)) (h0 : J [] W) :
    CallsIn F n Try.prog 83 #[.func (.yield l) #[] #[], .pointer (some ⟨Bs, 0, none⟩), .pointer (some ⟨Bn, 0, none⟩)] W fun e W' => (∃ v, e = .returned v) ∧
      ((∃ ys, ys = List.finRange m ∧ J ys W') ∨ (∃ pre, pre <+: List.finRange m ∧ Jx pre W')) := by
  have HM := Lib.hid hm
  clear hm
  refine callsIn_of_wp Try.func83 rfl hF ?_ hro
  simp only [Try.ntmps83, List.size_toArray, List.length_cons, List.length_nil, Nat.reduceAdd, Nat.reduceSub, Array.replicate_succ, Array.replicate_zero, List.push_toArray, List.append_toArray, List.nil_append, List.cons_append]
  gi_wp2
  gi_loopw [4] (fun i wr => ∃ k s : Nat, k ≤ m ∧ s = 2 * k ∧ i = .int .i64 (s : Int) ∧ J ((List.finRange m).take k) wr ∧ Kx n₀ n₁ W wr)
    (fun i _ => len - (intOf i).toNat)
  case atStart => exact ⟨0, 0, Nat.zero_le _, rfl, rfl, by simpa using h0, Kx.refl _ _ _⟩
  case round =>
    obtain ⟨k, s, hk, hs, rfl, hJs, hnx⟩ := hrel
    have HS := Lib.hid hs
    have HMM := HM.out
    have c1 := (hnx.cell (p := ⟨Bs, 0, none⟩) hBs' hBs).trans hcs
    have c2 := (hnx.cell (p := ⟨Bn, 0, none⟩) hBn' hBn).trans hcn
    by_cases hlt : k < m
    · obtain ⟨g, off, rfl⟩ := hA (by omega)
      have hk2 : s < len := by omega
      have hk3 : s + 2 ≤ len := by omega
      have hcap2 : s + 2 ≤ cap := by omega
      have hs1 : (0 : Int) ≤ (s : Int) := by omega
      have hs2 : (s : Int) ≤ (len : Int) := by omega
      have hs3 : (s : Int) ≤ (cap : Int) := by omega
      obtain ⟨fn, tmps, assign, body, hy, hR⟩ := hY _ ⟨k, hlt⟩ wr.drew (hJd _ _ hJs) (by rw [List.length_take, List.length_finRange]; omega)
      have HX := Lib.hid (show (List.finRange m).take (k + 1) = (List.finRange m).take k ++ [⟨k, hlt⟩] by rw [List.take_add_one, List.getElem?_eq_getElem (by rw [List.length_finRange]; exact hlt), List.getElem_finRange]; rfl)
      unfold pieceV at hy
      dsimp only [Option.map] at hy
      rw [← hs] at hy
      clear hs HMM
      gi_wp2
      refine wpIn_region_orders (by kernel_rfl) [[0, 1, 2, 3, 4, 5, 6], [0, 2, 1, 3, 4, 5, 6], [1, 0, 2, 3, 4, 5, 6], [1, 2, 0, 3, 4, 5, 6], [1, 2, 3, 0, 4, 5, 6], [1, 2, 3, 4, 0, 5, 6], [2, 0, 1, 3, 4, 5, 6], [2, 1, 0, 3, 4, 5, 6], [2, 1, 3, 0, 4, 5, 6], [2, 1, 3, 4, 0, 5, 6]] (by kernel_rfl) ?_
      intro o ho
      simp only [List.mem_cons, List.not_mem_nil, or_false] at ho
      rcases ho with rfl | rfl | rfl | rfl | rfl | rfl | rfl | rfl | rfl | rfl
      all_goals
        simp only [opsAt_cons, opsAt_nil, List.getElem?_toArray, List.getElem?_cons_succ, List.getElem?_cons_zero, Option.toList_some, List.cons_append, List.nil_append]
        gi_wp2
        refine hR.mono ?_
        rintro e W3 (⟨rfl, hJ3, hk3⟩ | ⟨rfl, hJx3⟩)
        · have c3 : W3.cell? ⟨Bn, 0, none⟩ = some (.int .i64 2) := (hk3.cell (p := ⟨Bn, 0, none⟩) hBn' hBn).trans c2
          gi_wp2
          go_roundw
          case rel => exact ⟨k + 1, s + 2, by omega, by have := HS.out; omega, by go_num, by rw [HX.out]; exact hJ3, hnx.trans ((Kx.refl _ _ wr).drew.trans hk3)⟩
          case measure => simp [intOf]; omega
        · gi_wp2
          refine bodyPost_ret (results_none rfl _ _ _) rfl ?_
          exact ⟨⟨_, rfl⟩, .inr ⟨_, by rw [← HX.out]; exact List.take_prefix _ _, hJx3⟩⟩
    · obtain rfl : k = m := by omega
      have hs0 : ¬ (s < len) := by omega
      clear HMM hs
      gi_wp2
      go_end0
      exact ⟨⟨_, rfl⟩, .inl ⟨_, by rw [List.take_of_length_le (by rw [List.length_finRange]; omega)], hJs⟩⟩

set_option maxHeartbeats 2000000 in
theorem chunk_in (F : Fence) (n : Nat) (hF : F.fn 81) (hro : F.round = none) (A : Option Addr) (len cap : Nat) (w : World) :
    CallsIn F n Try.prog 81 #[.slice A len cap, .int .i64 2] w fun e w' => e = .returned (.func (.func 83) #[] #[.pointer (some ⟨w.heap.size, 0, none⟩), .pointer (some ⟨w.heap.size + 1, 0, none⟩)]) ∧ w' = (w.alloc (.cells #[.slice A len cap] 94)).alloc (.cells #[.int .i64 2] 3) := by
  refine callsIn_of_wp Try.func81 rfl hF ?_ hro
  simp only [Try.ntmps81, List.size_toArray, List.length_cons, List.length_nil, Nat.reduceAdd, Nat.reduceSub, Array.replicate_succ, Array.replicate_zero, List.push_toArray, List.append_toArray, List.nil_append, List.cons_append]
  gi_wp2
  go_ret
  exact ⟨rfl, rfl⟩

theorem chunk_stops (F : Fence) (n : Nat) (hF : F.fn 83) (hro : F.round = none) (hn : 1 ≤ n) (Bs Bn n₀ : Nat) (A : Option Addr) (len cap m n₁ : Nat) (hA : 0 < len → ∃ g off, A = some ⟨g, off, none⟩) (hreach : len ≤ 1000000) (hm : len = 2 * m) (hcap : len ≤ cap) (w : World) (hBs : Bs < n₁) (hBn : Bn < n₁) (hBs' : Bs ≠ n₀) (hBn' : Bn ≠ n₀) (hn₁ : n₁ ≤ w.heap.size)
    (hc : w.cell? ⟨Bs, 0, none⟩ = some (.slice A len cap)) (hc2 : w.cell? ⟨Bn, 0, none⟩ = some (.int .i64 2)) :
    SeqStopsK F n Try.prog 83 #[.pointer (some ⟨Bs, 0, none⟩), .pointer (some ⟨Bn, 0, none⟩)] (pieceV (m := m) A) (Kx n₀ n₁) (fun ys => ys = List.finRange m) (fun pre => pre <+: List.finRange m) m w := fun l J Jx W hW hJ _ hY h0 =>
  chunk1_in F n hF hro hn l Bs Bn n₀ A len cap m hA n₁ hreach hm hcap J Jx (fun xs X h => hJ xs X X.drew none h ⟨rfl, rfl, rfl, Nat.le_refl _, fun _ _ _ => rfl⟩ (by simp)) hY W hBs hBn hBs' hBn' ((hW.cell (p := ⟨Bs, 0, none⟩) (by show Bs < _; omega)).trans hc) ((hW.cell (p := ⟨Bn, 0, none⟩) (by show Bn < _; omega)).trans hc2) h0
end Go.Proofs.Ytnnknnaimabehaa
