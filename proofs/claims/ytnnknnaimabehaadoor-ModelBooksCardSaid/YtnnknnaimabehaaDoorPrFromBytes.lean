/- regs.pairs and regs.Bytes. -/
import Derived.Test.YtnnknnaimabehaaDoorRows
import Derived.Test.YtnnknnaimabehaaDoorMemB
import Derived.Test.YtnnknnaimabehaaDoorBoxes
import Derived.Test.YtnnknnaimabehaaDoorOrders
import Derived.Test.YtnnknnaimabehaaDoorKeep
import Derived.RangeFuncNested
import Derived.RangeFuncBound
import Derived.RangeFuncCalls
import Derived.RangeFuncLeaves
import Derived.Shelf.Abstract
import Derived.Shelf.RegionOpen
import Derived.WalkKit
import Derived.OwnWalkIn
import Derived.TacticsInMore
import Derived.LoopNIn
import Derived.LoopIn
import Derived.Maps.AppendAt
import Derived.Deep.AppendLies
import Derived.Test.YtnnknnaimabehaaDoorRound
import Derived.Deep.RegionHeld3
import Derived.Lib.Builder
namespace Go.Proofs.YtnnknnaimabehaaDoor
open Go.RowKit Go.Shelf
attribute [local go_sem] Oper.semAt_some

/-- A register's number. -/
abbrev Reg := { x : Int // 0 ≤ x ∧ x < 65536 }
/-- Its two bytes, as an array. -/
def pairV (x : Reg) : Array Value := #[.agg #[.int .u8 (x.1 / 256), .int .u8 (x.1 % 256)]]

set_option maxRecDepth 100000 in
set_option maxHeartbeats 2000000 in
theorem pairs1_in (F : Fence) (n : Nat) (hF : F.fn 77) (hro : F.round = none) (hn : 1 ≤ n) (l Bs n₀ : Nat) (A : Option Addr) (len cap : Nat) (zs : List Reg) (hreach : len ≤ 1000000) (hl : zs.length = len) (J Jx : List Reg → World → Prop)
    (hY : ∀ pre x W, J pre W → pre.length < len → YieldAt F (n - 1) Tryd.prog l (pairV x) W fun e W' =>
      (e = .returned (.bool true) ∧ J (pre ++ [x]) W' ∧ Below n₀ W W') ∨ (e = .returned (.bool false) ∧ Jx (pre ++ [x]) W'))
    (W : World) (hBs : W.cell? ⟨Bs, 0, none⟩ = some (.slice A len cap)) (hc : RdI W n₀ .u16 A (zs.map (·.1))) (h0 : J [] W) :
    CallsIn F n Tryd.prog 77 #[.func (.yield l) #[] #[], .pointer (some ⟨Bs, 0, none⟩)] W fun e W' => (∃ v, e = .returned v) ∧
      ((∃ ys, ys = zs ∧ J ys W') ∨ (∃ pre, pre <+: zs ∧ Jx pre W')) := by
  have HC := Lib.hid hc
  have HL := Lib.hid hl
  clear hc hl
  refine callsIn_of_wp Tryd.func77 rfl hF ?_ hro
  simp only [Tryd.ntmps77, List.size_toArray, List.length_cons, List.length_nil, Nat.reduceAdd, Nat.reduceSub, Array.replicate_succ, Array.replicate_zero, List.push_toArray, List.append_toArray, List.nil_append, List.cons_append]
  gi_wp2
  gi_loopw [7] (fun i wr => ∃ k : Nat, k ≤ len ∧ i = .int .i64 k ∧ J (zs.take k) wr ∧ Below n₀ W wr)
    (fun i _ => len - (intOf i).toNat)
  case atStart => exact ⟨0, Nat.zero_le _, rfl, by simpa using h0, Below.refl _ _⟩
  case round =>
    obtain ⟨k, hk, rfl, hJs, hnx⟩ := hrel
    by_cases hlt : k < len
    · obtain ⟨x, hx⟩ : ∃ x, zs[k]? = some x := ⟨_, List.getElem?_eq_getElem (by rw [HL.out]; exact hlt)⟩
      obtain ⟨g, off, y, rfl, _, hy0, hcx⟩ := (HC.out.below hnx).at_ (i := k) (by rw [List.length_map, HL.out]; exact hlt)
      obtain rfl : x.1 = y := by simpa [hx] using hy0
      clear hy0
      obtain ⟨fn, tmps, assign, body, hy, hR⟩ := hY _ x wr hJs (by rw [List.length_take, HL.out]; omega)
      have HX := Lib.hid (show zs.take (k + 1) = zs.take k ++ [x] by rw [List.take_add_one, hx, Option.toList_some])
      obtain ⟨x, hx0, hx1⟩ := x
      unfold pairV at hy
      dsimp only at hy hcx
      clear hx
      gi_wp2
      refine hR.mono ?_
      rintro e W3 (⟨rfl, hJ3, hk3⟩ | ⟨rfl, hJx3⟩)
      · gi_wp2
        go_roundw
        case rel => exact ⟨k + 1, by omega, by simp, by rw [HX.out]; exact hJ3, hnx.trans hk3⟩
        case measure => simp [intOf]; omega
      · gi_wp2
        refine bodyPost_ret (results_none rfl _ _ _) rfl ?_
        exact ⟨⟨_, rfl⟩, .inr ⟨_, by rw [← HX.out]; exact List.take_prefix _ _, hJx3⟩⟩
    · obtain rfl : k = len := by omega
      gi_wp2
      go_end0
      exact ⟨⟨_, rfl⟩, .inl ⟨_, by rw [List.take_of_length_le (by rw [HL.out]; omega)], hJs⟩⟩

theorem pairs_in (F : Fence) (n : Nat) (hF : F.fn 73) (hro : F.round = none) (A : Option Addr) (len cap : Nat) (w : World) :
    CallsIn F n Tryd.prog 73 #[.slice A len cap] w fun e w' => e = .returned (.func (.func 77) #[] #[.pointer (some ⟨w.heap.size, 0, none⟩)]) ∧ w' = w.alloc (.cells #[.slice A len cap] 22) := by
  refine callsIn_of_wp Tryd.func73 rfl hF ?_ hro
  simp only [Tryd.ntmps73, List.size_toArray, List.length_cons, List.length_nil, Nat.reduceAdd, Nat.reduceSub, Array.replicate_succ, Array.replicate_zero, List.push_toArray, List.append_toArray, List.nil_append, List.cons_append]
  gi_wp2
  go_ret
  exact ⟨rfl, rfl⟩

theorem pairs_stops (F : Fence) (n : Nat) (hF : F.fn 77) (hro : F.round = none) (hn : 1 ≤ n) (Bs n₀ : Nat) (A : Option Addr) (len cap : Nat) (zs : List Reg) (hreach : len ≤ 1000000) (hl : zs.length = len) (w : World) (hBs : Bs < w.heap.size) (hn₀ : n₀ ≤ w.heap.size)
    (hc : w.cell? ⟨Bs, 0, none⟩ = some (.slice A len cap)) (hR : RdI w n₀ .u16 A (zs.map (·.1))) :
    SeqStopsK F n Tryd.prog 77 #[.pointer (some ⟨Bs, 0, none⟩)] pairV (Below n₀) (fun ys => ys = zs) (fun pre => pre <+: zs) len w := fun l J Jx W hW _ _ hY h0 =>
  pairs1_in F n hF hro hn l Bs n₀ A len cap zs hreach hl J Jx hY W ((hW.cell (p := ⟨Bs, 0, none⟩) hBs).trans hc) (hR.below (hW.mono hn₀)) h0

/-- Registers' bytes. -/
def bytesOf (l : List Reg) : List Int := l.flatMap fun x => [x.1 / 256, x.1 % 256]
theorem bytesOf_snoc (l : List Reg) (x : Reg) : bytesOf (l ++ [x]) = bytesOf l ++ [x.1 / 256, x.1 % 256] := by simp [bytesOf]
theorem bytesOf_len (l : List Reg) : (bytesOf l).length = 2 * l.length := by
  induction l with
  | nil => rfl
  | cons a l ih => simp [bytesOf] at ih ⊢; omega
theorem infoB : (Tryd.prog.info? 5).map (fun i => (i.zero, i.size, i.bytes)) = some (some (.int .u8 0), 1, 1) := by kernel_rfl

end Go.Proofs.YtnnknnaimabehaaDoor
namespace Go.Proofs.YtnnknnaimabehaaDoor
open Go.RowKit Go.Shelf
attribute [local go_sem] Oper.semAt_some

/-- The k-th piece of two. -/
def pieceV (A : Option Addr) {m : Nat} (k : Fin m) : Array Value := #[.slice (A.map fun a => ⟨a.block, a.off + 2 * k.1, none⟩) 2 2]

set_option maxRecDepth 100000 in
set_option maxHeartbeats 4000000 in
theorem chunk1_in (F : Fence) (n : Nat) (hF : F.fn 82) (hro : F.round = none) (hn : 1 ≤ n) (l Bs Bn n₀ : Nat) (A : Option Addr) (len cap m : Nat) (hA : 0 < len → ∃ g off, A = some ⟨g, off, none⟩) (n₁ : Nat) (hreach : len ≤ 1000000) (hm : len = 2 * m) (hcap : len ≤ cap) (J Jx : List (Fin m) → World → Prop) (hJd : ∀ xs X, J xs X → J xs X.drew)
    (hY : ∀ pre x W, J pre W → pre.length < m → YieldAt F (n - 1) Tryd.prog l (pieceV A x) W fun e W' =>
      (e = .returned (.bool true) ∧ J (pre ++ [x]) W' ∧ Kx n₀ n₁ W W') ∨ (e = .returned (.bool false) ∧ Jx (pre ++ [x]) W'))
    (W : World) (hBs : Bs < n₁) (hBn : Bn < n₁) (hBs' : Bs ≠ n₀) (hBn' : Bn ≠ n₀) (hcs : W.cell? ⟨Bs, 0, none⟩ = some (.slice A len cap)) (hcn : W.cell? ⟨Bn, 0, none⟩ = some (.int .i64 2)) (h0 : J [] W) :
    CallsIn F n Tryd.prog 82 #[.func (.yield l) #[] #[], .pointer (some ⟨Bs, 0, none⟩), .pointer (some ⟨Bn, 0, none⟩)] W fun e W' => (∃ v, e = .returned v) ∧
      ((∃ ys, ys = List.finRange m ∧ J ys W') ∨ (∃ pre, pre <+: List.finRange m ∧ Jx pre W')) := by
  have HM := Lib.hid hm
  clear hm
  refine callsIn_of_wp Tryd.func82 rfl hF ?_ hro
  simp only [Tryd.ntmps82, List.size_toArray, List.length_cons, List.length_nil, Nat.reduceAdd, Nat.reduceSub, Array.replicate_succ, Array.replicate_zero, List.push_toArray, List.append_toArray, List.nil_append, List.cons_append]
  gi_wp2
  gi_loopw [4] (fun i wr => ∃ k s : Nat, k ≤ m ∧ s = 2 * k ∧ i = .int .i64 (s : Int) ∧ J ((List.finRange m).take k) wr ∧ Kx n₀ n₁ W wr)
    (fun i _ => len - (intOf i).toNat)
  case atStart => exact ⟨0, 0, Nat.zero_le _, rfl, rfl, by simpa using h0, Kx.refl _ _ _⟩
  case round =>
    obtain ⟨k, s, hk, hs, rfl, hJs, hnx⟩ := hrel
    have HS := Lib.hid hs
    have HMM := HM.out
    have c1 := (hnx.cell (p := ⟨Bs, 0, none⟩) hBs' hBs).trans hcs
    have c2 := (hnx.cell (p := ⟨Bn, 0, none⟩) hBn' hBn).trans hcn
    by_cases hlt : k < m
    · obtain ⟨g, off, rfl⟩ := hA (by omega)
      have hk2 : s < len := by omega
      have hk3 : s + 2 ≤ len := by omega
      have hcap2 : s + 2 ≤ cap := by omega
      have hs1 : (0 : Int) ≤ (s : Int) := by omega
      have hs2 : (s : Int) ≤ (len : Int) := by omega
      have hs3 : (s : Int) ≤ (cap : Int) := by omega
      obtain ⟨fn, tmps, assign, body, hy, hR⟩ := hY _ ⟨k, hlt⟩ wr.drew (hJd _ _ hJs) (by rw [List.length_take, List.length_finRange]; omega)
      have HX := Lib.hid (show (List.finRange m).take (k + 1) = (List.finRange m).take k ++ [⟨k, hlt⟩] by rw [List.take_add_one, List.getElem?_eq_getElem (by rw [List.length_finRange]; exact hlt), List.getElem_finRange]; rfl)
      unfold pieceV at hy
      dsimp only [Option.map] at hy
      rw [← hs] at hy
      clear hs HMM
      gi_wp2
      refine wpIn_region_orders (by kernel_rfl) [[0, 1, 2, 3, 4, 5, 6], [0, 2, 1, 3, 4, 5, 6], [1, 0, 2, 3, 4, 5, 6], [1, 2, 0, 3, 4, 5, 6], [1, 2, 3, 0, 4, 5, 6], [1, 2, 3, 4, 0, 5, 6], [2, 0, 1, 3, 4, 5, 6], [2, 1, 0, 3, 4, 5, 6], [2, 1, 3, 0, 4, 5, 6], [2, 1, 3, 4, 0, 5, 6]] (by kernel_rfl) ?_
      intro o ho
      simp only [List.mem_cons, List.not_mem_nil, or_false] at ho
      rcases ho with rfl | rfl | rfl | rfl | rfl | rfl | rfl | rfl | rfl | rfl
      all_goals
        simp only [opsAt_cons, opsAt_nil, List.getElem?_toArray, List.getElem?_cons_succ, List.getElem?_cons_zero, Option.toList_some, List.cons_append, List.nil_append]
        gi_wp2
        refine hR.mono ?_
        rintro e W3 (⟨rfl, hJ3, hk3⟩ | ⟨rfl, hJx3⟩)
        · have c3 : W3.cell? ⟨Bn, 0, none⟩ = some (.int .i64 2) := (hk3.cell (p := ⟨Bn, 0, none⟩) hBn' hBn).trans c2
          gi_wp2
          go_roundw
          case rel => exact ⟨k + 1, s + 2, by omega, by have := HS.out; omega, by go_num, by rw [HX.out]; exact hJ3, hnx.trans ((Kx.refl _ _ wr).drew.trans hk3)⟩
          case measure => simp [intOf]; omega
        · gi_wp2
          refine bodyPost_ret (results_none rfl _ _ _) rfl ?_
          exact ⟨⟨_, rfl⟩, .inr ⟨_, by rw [← HX.out]; exact List.take_prefix _ _, hJx3⟩⟩
    · obtain rfl : k = m := by omega
      have hs0 : ¬ (s < len) := by omega
      clear HMM hs
      gi_wp2
      go_end0
      exact ⟨⟨_, rfl⟩, .inl ⟨_, by rw [List.take_of_length_le (by rw [List.length_finRange]; omega)], hJs⟩⟩

set_option maxHeartbeats 2000000 in
theorem chunk_in (F : Fence) (n : Nat) (hF : F.fn 80) (hro : F.round = none) (A : Option Addr) (len cap : Nat) (w : World) :
    CallsIn F n Tryd.prog 80 #[.slice A len cap, .int .i64 2] w fun e w' => e = .returned (.func (.func 82) #[] #[.pointer (some ⟨w.heap.size, 0, none⟩), .pointer (some ⟨w.heap.size + 1, 0, none⟩)]) ∧ w' = (w.alloc (.cells #[.slice A len cap] 141)).alloc (.cells #[.int .i64 2] 3) := by
  refine callsIn_of_wp Tryd.func80 rfl hF ?_ hro
  simp only [Tryd.ntmps80, List.size_toArray, List.length_cons, List.length_nil, Nat.reduceAdd, Nat.reduceSub, Array.replicate_succ, Array.replicate_zero, List.push_toArray, List.append_toArray, List.nil_append, List.cons_append]
  gi_wp2
  go_ret
  exact ⟨rfl, rfl⟩

theorem chunk_stops (F : Fence) (n : Nat) (hF : F.fn 82) (hro : F.round = none) (hn : 1 ≤ n) (Bs Bn n₀ : Nat) (A : Option Addr) (len cap m n₁ : Nat) (hA : 0 < len → ∃ g off, A = some ⟨g, off, none⟩) (hreach : len ≤ 1000000) (hm : len = 2 * m) (hcap : len ≤ cap) (w : World) (hBs : Bs < n₁) (hBn : Bn < n₁) (hBs' : Bs ≠ n₀) (hBn' : Bn ≠ n₀) (hn₁ : n₁ ≤ w.heap.size)
    (hc : w.cell? ⟨Bs, 0, none⟩ = some (.slice A len cap)) (hc2 : w.cell? ⟨Bn, 0, none⟩ = some (.int .i64 2)) :
    SeqStopsK F n Tryd.prog 82 #[.pointer (some ⟨Bs, 0, none⟩), .pointer (some ⟨Bn, 0, none⟩)] (pieceV (m := m) A) (Kx n₀ n₁) (fun ys => ys = List.finRange m) (fun pre => pre <+: List.finRange m) m w := fun l J Jx W hW hJ _ hY h0 =>
  chunk1_in F n hF hro hn l Bs Bn n₀ A len cap m hA n₁ hreach hm hcap J Jx (fun xs X h => hJ xs X X.drew none h ⟨rfl, rfl, rfl, Nat.le_refl _, fun _ _ _ => rfl⟩ (by simp)) hY W hBs hBn hBs' hBn' ((hW.cell (p := ⟨Bs, 0, none⟩) (by show Bs < _; omega)).trans hc) ((hW.cell (p := ⟨Bn, 0, none⟩) (by show Bn < _; omega)).trans hc2) h0
end Go.Proofs.YtnnknnaimabehaaDoor
namespace Go.Proofs.YtnnknnaimabehaaDoor
open Go.RowKit Go.Shelf
attribute [local go_sem] Oper.semAt_some

def wordK (xs : List Int) {m : Nat} (k : Fin m) : Int := xs.getD (2 * k.1) 0 * 256 + xs.getD (2 * k.1 + 1) 0
def wordsK (xs : List Int) {m : Nat} (pre : List (Fin m)) : List Int := pre.map (wordK xs)
theorem infoW : (Tryd.prog.info? 77).map (fun i => (i.zero, i.size, i.bytes)) = some (some (.int .u16 0), 1, 2) := by kernel_rfl

def SB (g o : Nat) (y1 y2 : Int) (w' : World) : Prop := w'.cell? ⟨g, o, none⟩ = some (.int .u8 y1) ∧ w'.cell? ⟨g, o + 1, none⟩ = some (.int .u8 y2)
theorem SB.alloc {g o : Nat} {y1 y2 : Int} {W : World} (h : SB g o y1 y2 W.drew) (hg : g < W.heap.size) (ob : Obj) : SB g o y1 y2 (W.alloc ob).drew :=
  ⟨((Below.refl _ W).alloc (Nat.le_refl _) ob).cell (p := ⟨g, o, none⟩) hg |>.trans h.1, ((Below.refl _ W).alloc (Nat.le_refl _) ob).cell (p := ⟨g, o + 1, none⟩) hg |>.trans h.2⟩
theorem or_word (a b : Int) (ha : 0 ≤ a) (ha' : a < 256) (hb : 0 ≤ b) (hb' : b < 256) : bits BinOp.or IntKind.u16 (a * 256) b = a * 256 + b := by
  obtain ⟨a, rfl⟩ := Int.eq_ofNat_of_zero_le ha
  obtain ⟨b, rfl⟩ := Int.eq_ofNat_of_zero_le hb
  have e : (a : Int) * 256 = ((a * 256 : Nat) : Int) := by omega
  rw [e, u16_or_nat _ _ (by omega) (by omega), nat_join 8 _ _ (by omega) (by omega)]
  omega
/-- The frame in a round. -/
def frameF (A : Option Addr) (len cap n₀ : Nat) (x : Option Addr) : Act := { tmps := #[.slice A len cap, undef, .slice none 0 0, .int .i64 0, .pointer (some ⟨n₀, 0, none⟩), .slice x 2 2, .slice A len cap, .int .i64 len, .int .i64 ((len : Int) % 2), .bool false, .slice A len cap, .func (.func 82) #[] #[.pointer (some ⟨n₀ + 1, 0, none⟩), .pointer (some ⟨n₀ + 2, 0, none⟩)], .slice x 2 2, undef, undef, undef, undef, undef, undef, undef, undef, undef, undef, undef, undef, undef, undef], defers := [] }

set_option maxRecDepth 100000 in
set_option maxHeartbeats 4000000 in
theorem frombytes_in (A : Option Addr) (len cap m : Nat) (xs : List Int) (hreach : len ≤ 1000000) (hm : len = 2 * m) (hcap : len ≤ cap) (hl : xs.length = len) (hx : ∀ x ∈ xs, 0 ≤ x ∧ x < 256) (w : World) (hR : RdI w w.heap.size .u8 A xs) :
    CallsIn Fence.wide 5 Tryd.prog 76 #[.slice A len cap] w fun e W' => ∃ v, e = .returned (.tuple #[v, .int .i64 0]) ∧ W'.ownsRow w.heap.size 77 1 v m ((wordsK xs (List.finRange m)).map (Value.int .u16)) ∧ Below w.heap.size w W' := by
  have hA : 0 < len → ∃ g off, A = some ⟨g, off, none⟩ := fun h => by
    obtain ⟨g, off, x, hg, _⟩ := hR.at_ (i := 0) (by omega)
    exact ⟨g, off, hg⟩
  have HR := Lib.hid hR
  have HL := Lib.hid hl
  have HM := Lib.hid hm
  have HXX := Lib.hid hx
  have hodd : ((len : Int).tmod 2 != 0) = false := by
    rw [Int.tmod_eq_emod_of_nonneg (by omega)]; simp; omega
  have hodd2 : ((len : Int) % 2 != 0) = false := by simp; omega
  have h2F : Fence.wide.fn 80 := trivial
  have h3F : Fence.wide.fn 82 := trivial
  have hro : Fence.wide.round = none := rfl
  clear hR hl hm hx
  obtain ⟨i0, hi, hz0, hz1, hz2⟩ := info_parts infoW
  refine callsIn_of_wp_marks Tryd.func76 rfl trivial ?_ rfl
  simp only [Tryd.ntmps76, List.size_toArray, List.length_cons, List.length_nil, Nat.reduceAdd, Nat.reduceSub, Array.replicate_succ, Array.replicate_zero, List.push_toArray, List.append_toArray, List.nil_append, List.cons_append]
  gi_wp2_with (gi_at_call 80; refine (chunk_in Fence.wide 4 trivial rfl _ len cap _).mono ?_; rintro e w' ⟨rfl, rfl⟩)
  have bO := Boxed.new w 22 (.slice none 0 0)
  have hs1 : (w.alloc (.cells #[.slice none 0 0] 22)).heap.size = w.heap.size + 1 := World.size_alloc _ _
  have bS := Boxed.new (w.alloc (.cells #[.slice none 0 0] 22)) 141 (.slice A len cap)
  rw [hs1] at bS
  have bN := Boxed.new ((w.alloc (.cells #[.slice none 0 0] 22)).alloc (.cells #[.slice A len cap] 141)) 3 (.int .i64 2)
  rw [World.size_alloc, hs1] at bN
  have hB0 : Below w.heap.size w (((w.alloc (.cells #[.slice none 0 0] 22)).alloc (.cells #[.slice A len cap] 141)).alloc (.cells #[.int .i64 2] 3)) := (((Below.refl _ w).alloc (Nat.le_refl _) _).alloc (by simp) _).alloc (by simp; omega) _
  refine wpIn_rangeFunc_ownH hro (by omega) (gf := 82) (lb := #[.pointer (some ⟨w.heap.size + 1, 0, none⟩), .pointer (some ⟨w.heap.size + 2, 0, none⟩)]) rfl h3F (enters_of Tryd.func82 (by kernel_rfl) rfl)
    (chunk_stops Fence.wide 4 h3F hro (by omega) (w.heap.size + 1) (w.heap.size + 2) w.heap.size A len cap m (w.heap.size + 3) hA hreach HM.out hcap _ (by omega) (by omega) (by omega) (by omega) (by simp) (bS.alloc _).cell bN.cell) Kx.trans (fun W l o o' hl ho h1 h2 => Kx.of_below (belowK_b (w := (((w.alloc (.cells #[.slice none 0 0] 22)).alloc (.cells #[.slice A len cap] 141)).alloc (.cells #[.int .i64 2] 3))) (by simp) W l o o' hl ho h1 h2) (by omega)) (Below.refl _ _) (fun _ => rfl)
    (fun pre W => (∃ v, Boxed W w.heap.size 22 v ∧ W.ownsRow (w.heap.size + 3) 77 1 v (wordsK (m := m) xs pre).length ((wordsK xs pre).map (Value.int .u16)) ∧ True) ∧ Below w.heap.size w W)
    (fun _ _ _ => False)
    ?own (fun _ _ _ _ _ hs _ _ => hs)
    ⟨⟨_, (bO.alloc _).alloc _, World.ownsRow_nil _ _ _ _, trivial⟩, hB0⟩
    (fun x a' _ => a' = frameF A len cap w.heap.size (A.map fun a => ⟨a.block, a.off + 2 * x.1, none⟩))
    (fun x a' _ X Y row hs hg hr => hs) ?assign ?body ?done ?stop
  case own => exact OwnFrom.and (Own.from (holdsRow_own (w.heap.size + 3) w.heap.size 22 77 1 (fun pre => (wordsK (m := m) xs pre).length) (fun pre => (wordsK xs pre).map (Value.int .u16)) (fun _ _ => True)) _) (ownFrom_below (Nat.le_refl _) (by simp; omega))
  case assign =>
    rintro l pre x W K ⟨⟨v, hv, hrow, _⟩, hB⟩ hK
    unfold pieceV
    gi_wp2
    exact hK _ _ ((KeepsOthers.refl _).from _) (Kx.refl _ _ _) ⟨⟨v, hv, hrow, trivial⟩, hB⟩ rfl
  case body =>
    rintro l pre x a' W hl ⟨r, hr⟩ ⟨⟨v, hv, hrow, _⟩, hB⟩ rfl hlt
    obtain ⟨k, hk⟩ := x
    have hlen := HM.out
    have hxl := HL.out
    obtain ⟨g, off, y1, rfl, hgb, hy1, hc1⟩ := (HR.out.below hB).at_ (i := 2 * k) (by omega)
    obtain ⟨g', off', y2, hg', _, hy2, hc2⟩ := (HR.out.below hB).at_ (i := 2 * k + 1) (by omega)
    injection hg' with hg'; injection hg' with hg' ho'; subst hg'; subst ho'
    obtain ⟨b1, b2⟩ := HXX.out y1 (List.mem_of_getElem? hy1)
    obtain ⟨b3, b4⟩ := HXX.out y2 (List.mem_of_getElem? hy2)
    have hW : wordK xs (⟨k, hk⟩ : Fin m) = y1 * 256 + y2 := by simp [wordK, List.getD, hy1, hy2]
    have hor := or_word y1 y2 b1 b2 b3 b4
    have w1 : IntKind.u16.wrap y1 = y1 := IntWalk.u16_in _ (by omega)
    have w2 : IntKind.u16.wrap y2 = y2 := IntWalk.u16_in _ (by omega)
    have w3 : IntKind.u16.wrap (y1 * 256) = y1 * 256 := IntWalk.u16_in _ (by omega)
    have HW := Lib.hid hW
    have hco := hv.cell
    have hSW : SB g (off + 2 * k) y1 y2 W.drew := ⟨hc1, hc2⟩
    have hsz := hB.size
    have hgW : g < W.heap.size := by omega
    have hmm : m ≤ 1000000 := by omega
    have hW3 : w.heap.size + 3 ≤ W.heap.size := by
      have := (Array.getElem?_eq_some_iff.1 hr).1
      simp at hl
      omega
    have hwl : (wordsK xs pre).length = pre.length := by simp [wordsK]
    clear hW hy1 hy2 hc1 hc2 hlen hxl
    unfold frameF
    simp only [Option.map]
    gi_wp2
    refine round_region_held (SB g (off + 2 * k) y1 y2) (by kernel_rfl) (by kernel_rfl) (ownPostG_notOut _) ?_
    refine wpAnyH_take (i := 1) (v := ?v1) rfl (by kernel_rfl) (by kernel_rfl) (by kernel_rfl) (fun _ _ _ h => h) (Or.inl ⟨by rfl, ?y1⟩) (by assumption) ?r1
    case y1 =>
      rintro w ⟨hc1, hc2⟩
      go_simp
      with_reducible rfl
    simp only [Act.put]
    refine wpAnyH_take (i := 2) (v := ?v2) rfl (by kernel_rfl) (by kernel_rfl) (by kernel_rfl) (fun _ _ _ h => h) (Or.inl ⟨by rfl, ?y2⟩) (by assumption) ?r2
    case y2 =>
      rintro w ⟨hc1, hc2⟩
      go_simp
      with_reducible rfl
    simp only [Act.put]
    refine wpAnyH_take (i := 3) (v := ?v3) rfl (by kernel_rfl) (by kernel_rfl) (by kernel_rfl) (fun _ _ _ h => h) (Or.inl ⟨by rfl, ?y3⟩) (by assumption) ?r3
    case y3 =>
      rintro w ⟨hc1, hc2⟩
      go_simp
      with_reducible rfl
    simp only [Act.put]
    refine wpAnyH_take (i := 4) (v := ?v4) rfl (by kernel_rfl) (by kernel_rfl) (by kernel_rfl) (fun _ _ _ h => h) (Or.inl ⟨by rfl, ?y4⟩) (by assumption) ?r4
    case y4 =>
      rintro w ⟨hc1, hc2⟩
      go_simp
      with_reducible rfl
    simp only [Act.put]
    refine wpAnyH_take (i := 5) (v := ?v5) rfl (by kernel_rfl) (by kernel_rfl) (by kernel_rfl) (fun _ _ _ h => h) (Or.inl ⟨by rfl, ?y5⟩) (by assumption) ?r5
    case y5 =>
      rintro w ⟨hc1, hc2⟩
      go_simp
      with_reducible rfl
    simp only [Act.put]
    refine wpAnyH_take (i := 6) (v := ?v6) rfl (by kernel_rfl) (by kernel_rfl) (by kernel_rfl) (fun _ _ _ h => h) (Or.inl ⟨by rfl, ?y6⟩) (by assumption) ?r6
    case y6 =>
      rintro w ⟨hc1, hc2⟩
      go_simp
      with_reducible rfl
    simp only [Act.put]
    refine wpAnyH_take (i := 7) (v := ?v7) rfl (by kernel_rfl) (by kernel_rfl) (by kernel_rfl) (fun _ _ _ h => h) (Or.inl ⟨by rfl, ?y7⟩) (by assumption) ?r7
    case y7 =>
      rintro w ⟨hc1, hc2⟩
      go_simp
      with_reducible rfl
    simp only [Act.put]
    refine wpAnyH_take (i := 8) (v := ?v8) rfl (by kernel_rfl) (by kernel_rfl) (by kernel_rfl) (fun _ _ _ h => h) (Or.inl ⟨by rfl, ?y8⟩) (by assumption) ?r8
    case y8 =>
      rintro w ⟨hc1, hc2⟩
      go_simp
      with_reducible rfl
    simp only [Act.put]
    refine wpAnyH_take (i := 9) (v := ?v9) rfl (by kernel_rfl) (by kernel_rfl) (by kernel_rfl) (fun _ _ _ h => h) (Or.inl ⟨by rfl, ?y9⟩) (by assumption) ?r9
    case y9 =>
      rintro w ⟨hc1, hc2⟩
      go_simp
      with_reducible rfl
    simp only [Act.put]
    refine wpAnyH_take (i := 10) (v := ?v10) rfl (by kernel_rfl) (by kernel_rfl) (by kernel_rfl) (fun _ _ _ h => h) (Or.inl ⟨by rfl, ?y10⟩) (by assumption) ?r10
    case y10 =>
      rintro w ⟨hc1, hc2⟩
      go_simp
      with_reducible rfl
    simp only [Act.put]
    refine wpAnyH_ready (rs := [0, 11]) (by kernel_rfl) (by simp) ?_
    refine AllReadyH.cons rfl (fun K hK => ?_) (AllReadyH.cons rfl (fun K hK => ?_) AllReadyH.nil)
    · go_simp
      refine hK.out _ _ hSW (fun hSL => ?_)
      clear hK K
      refine wpAnyH_ready (rs := [11]) (by kernel_rfl) (by simp) ?_
      refine AllReadyH.cons rfl (fun K hK => ?_) AllReadyH.nil
      go_simp
      refine hK.out _ _ (hSW.alloc hgW _) (fun hSL => ?_)
      clear hK K
      refine wpAnyH_ready (rs := [12]) (by kernel_rfl) (by simp) ?_
      refine AllReadyH.cons rfl (fun K hK => ?_) AllReadyH.nil
      refine step_append_lies _ (by rfl) _ _ _ (by rfl) (w.heap.size + 3) 77 i0 (.int .u16 0) 1 2 Tryd.underlying22 hi hz0 hz1 hz2 rfl (by decide) v (wordsK xs pre).length _ (by rfl) ((hrow.alloc _).drew)
        ⟨W.heap.size, 0, none⟩ 1 1 [.int .u16 (y1 * 256 + y2)] (by rfl) (by rfl) (World.news_of_block (cs := #[.int .u16 (y1 * 256 + y2)]) (t := 77) (fr := (0, 0)) (heap_alloc_new W _)) (by simp [Value.oneCell'])
        (by omega) (by unfold maxLen; omega) (by omega) (by simp; omega) (W.heap.size + 1) (by simp) ?_
      intro gg cc w1 hown' hgrow hat hlt2
      have hB1 : Below (w.heap.size + 3) W w1 := (((Below.refl _ W).alloc hW3 _).drew).grown hgrow (by simp; omega) (fun k hk => (hrow.lt k hk).1)
      have hv0 : Boxed (W.alloc (.cells #[.int .u16 (y1 * 256 + y2)] 77)).drew w.heap.size 22 v := hv.alloc _
      have hv1 : Boxed w1 w.heap.size 22 v := hv0.kept hgrow (hv0.not_row (by decide) ((hrow.alloc _).drew))
      have hr2 := hown'.kept (grownBy_setCell' w1 w.heap.size (.slice (some ⟨gg, 0, none⟩) ((wordsK xs pre).length + 1) cc)) (.inr (hv1.not_row (by decide) hown').symm)
      have hv2 := hv1.set (.slice (some ⟨gg, 0, none⟩) ((wordsK xs pre).length + 1) cc)
      have hk2 : KeepsOthers W w1 := ((KeepsOthers.alloc _ _).trans (KeepsOthers.drew _)).trans (KeepsOthers.of_grownBy hgrow fun j o ej hj => by
        rcases hrow.2 with ⟨rfl, _⟩ | ⟨g4, cap4, cur4, rfl, _, hgb4, _⟩
        · simp [Value.ownBlock] at ej
        · obtain rfl : g4 = j := by simpa [Value.ownBlock] using ej
          have h5 := (Lib.alloc_old W (.cells #[.int .u16 (y1 * 256 + y2)] 77) g4 (Array.getElem?_eq_some_iff.1 hgb4).1).trans hgb4
          have h6 : (W.alloc (.cells #[.int .u16 (y1 * 256 + y2)] 77)).heap[g4]? = some o := hj
          rw [h5] at h6; cases h6; rfl)
      have hc1 := hv1.cell
      have hf1 := hv1.frozen
      refine hK.out _ _ ⟨(hB1.cell (p := ⟨g, off + 2 * k, none⟩) (by show g < _; omega)).trans hSW.1, (hB1.cell (p := ⟨g, off + 2 * k + 1, none⟩) (by show g < _; omega)).trans hSW.2⟩ (fun hSL => ?_)
      clear hK K
      refine wpAnyH_ready (rs := [13]) (by kernel_rfl) (by simp) ?_
      refine AllReadyH.cons rfl (fun K hK => ?_) AllReadyH.nil
      go_simp
      have hKx := (Kx.of_below (n₀ := w.heap.size) hB1 (by omega)).set 0 (.slice (some ⟨gg, 0, none⟩) ((wordsK xs pre).length + 1) cc)
      rw [hwl] at hKx hv2 hr2
      refine hK.out _ _ ⟨(hKx.cell (p := ⟨g, off + 2 * k, none⟩) (by show g ≠ _; omega) (by show g < _; omega)).trans hSW.1, (hKx.cell (p := ⟨g, off + 2 * k + 1, none⟩) (by show g ≠ _; omega) (by show g < _; omega)).trans hSW.2⟩ (fun hSL => ?_)
      clear hK K
      refine wpAnyH_done (by kernel_rfl) ?_ _
      refine ⟨(hk2.trans (KeepsOthers.setCell _ _ _)).from _, hKx, ⟨_, hv2, ?_, trivial⟩, hB.trans hKx.1⟩
      have e1 : wordsK xs (pre ++ [(⟨k, hk⟩ : Fin m)]) = wordsK xs pre ++ [y1 * 256 + y2] := by rw [← HW.out]; simp [wordsK]
      rw [e1]
      simpa [hwl] using hr2
    · go_simp
      refine hK.out _ _ (hSW.alloc hgW _) (fun hSL => ?_)
      clear hK K
      have hco2 := (hv.alloc (.cells #[.int .u16 (y1 * 256 + y2)] 77)).cell
      refine wpAnyH_ready (rs := [0]) (by kernel_rfl) (by simp) ?_
      refine AllReadyH.cons rfl (fun K hK => ?_) AllReadyH.nil
      go_simp
      refine hK.out _ _ (hSW.alloc hgW _) (fun hSL => ?_)
      clear hK K
      refine wpAnyH_ready (rs := [12]) (by kernel_rfl) (by simp) ?_
      refine AllReadyH.cons rfl (fun K hK => ?_) AllReadyH.nil
      refine step_append_lies _ (by rfl) _ _ _ (by rfl) (w.heap.size + 3) 77 i0 (.int .u16 0) 1 2 Tryd.underlying22 hi hz0 hz1 hz2 rfl (by decide) v (wordsK xs pre).length _ (by rfl) ((hrow.alloc _).drew)
        ⟨W.heap.size, 0, none⟩ 1 1 [.int .u16 (y1 * 256 + y2)] (by rfl) (by rfl) (World.news_of_block (cs := #[.int .u16 (y1 * 256 + y2)]) (t := 77) (fr := (0, 0)) (heap_alloc_new W _)) (by simp [Value.oneCell'])
        (by omega) (by unfold maxLen; omega) (by omega) (by simp; omega) (W.heap.size + 1) (by simp) ?_
      intro gg cc w1 hown' hgrow hat hlt2
      have hB1 : Below (w.heap.size + 3) W w1 := (((Below.refl _ W).alloc hW3 _).drew).grown hgrow (by simp; omega) (fun k hk => (hrow.lt k hk).1)
      have hv0 : Boxed (W.alloc (.cells #[.int .u16 (y1 * 256 + y2)] 77)).drew w.heap.size 22 v := hv.alloc _
      have hv1 : Boxed w1 w.heap.size 22 v := hv0.kept hgrow (hv0.not_row (by decide) ((hrow.alloc _).drew))
      have hr2 := hown'.kept (grownBy_setCell' w1 w.heap.size (.slice (some ⟨gg, 0, none⟩) ((wordsK xs pre).length + 1) cc)) (.inr (hv1.not_row (by decide) hown').symm)
      have hv2 := hv1.set (.slice (some ⟨gg, 0, none⟩) ((wordsK xs pre).length + 1) cc)
      have hk2 : KeepsOthers W w1 := ((KeepsOthers.alloc _ _).trans (KeepsOthers.drew _)).trans (KeepsOthers.of_grownBy hgrow fun j o ej hj => by
        rcases hrow.2 with ⟨rfl, _⟩ | ⟨g4, cap4, cur4, rfl, _, hgb4, _⟩
        · simp [Value.ownBlock] at ej
        · obtain rfl : g4 = j := by simpa [Value.ownBlock] using ej
          have h5 := (Lib.alloc_old W (.cells #[.int .u16 (y1 * 256 + y2)] 77) g4 (Array.getElem?_eq_some_iff.1 hgb4).1).trans hgb4
          have h6 : (W.alloc (.cells #[.int .u16 (y1 * 256 + y2)] 77)).heap[g4]? = some o := hj
          rw [h5] at h6; cases h6; rfl)
      have hc1 := hv1.cell
      have hf1 := hv1.frozen
      refine hK.out _ _ ⟨(hB1.cell (p := ⟨g, off + 2 * k, none⟩) (by show g < _; omega)).trans hSW.1, (hB1.cell (p := ⟨g, off + 2 * k + 1, none⟩) (by show g < _; omega)).trans hSW.2⟩ (fun hSL => ?_)
      clear hK K
      refine wpAnyH_ready (rs := [13]) (by kernel_rfl) (by simp) ?_
      refine AllReadyH.cons rfl (fun K hK => ?_) AllReadyH.nil
      go_simp
      have hKx := (Kx.of_below (n₀ := w.heap.size) hB1 (by omega)).set 0 (.slice (some ⟨gg, 0, none⟩) ((wordsK xs pre).length + 1) cc)
      rw [hwl] at hKx hv2 hr2
      refine hK.out _ _ ⟨(hKx.cell (p := ⟨g, off + 2 * k, none⟩) (by show g ≠ _; omega) (by show g < _; omega)).trans hSW.1, (hKx.cell (p := ⟨g, off + 2 * k + 1, none⟩) (by show g ≠ _; omega) (by show g < _; omega)).trans hSW.2⟩ (fun hSL => ?_)
      clear hK K
      refine wpAnyH_done (by kernel_rfl) ?_ _
      refine ⟨(hk2.trans (KeepsOthers.setCell _ _ _)).from _, hKx, ⟨_, hv2, ?_, trivial⟩, hB.trans hKx.1⟩
      have e1 : wordsK xs (pre ++ [(⟨k, hk⟩ : Fin m)]) = wordsK xs pre ++ [y1 * 256 + y2] := by rw [← HW.out]; simp [wordsK]
      rw [e1]
      simpa [hwl] using hr2
  case done =>
    rintro D ys W hD rfl ⟨⟨v, hv, hrow, _⟩, hB⟩ hK
    have hc := hv.cell
    gi_wp2
    refine ⟨by simp, .inl ⟨_, _, rfl, run_takeDeferred hK, ?_⟩⟩
    have hwl2 : (wordsK xs (List.finRange m)).length = m := by simp [wordsK]
    rw [hwl2] at hrow
    exact ⟨_, results_tmp2 rfl _ _ _, v, rfl, own_base (base' := w.heap.size) (ownsRow_putObj hrow _ hK rfl) (by omega), hB.trans (belowK_b (w := w) (Nat.le_refl _) W D _ _ (by simp at hD; omega) hK rfl rfl)⟩
  case stop =>
    rintro D c pre W _ _ h _
    exact h.elim
end Go.Proofs.YtnnknnaimabehaaDoor
