/- bus.Name and bus.only. -/
import Derived.Test.YtcipleanckeoaaaDoorYTk
import Derived.Test.YtcipleanckeoaaaDoorYBusMay
import Derived.Deep.MidRow
set_option maxRecDepth 100000
set_option maxHeartbeats 40000000
namespace Go.Proofs.YtcipleanckeoaaaDoor
open Go.RowKit
attribute [local go_sem] Oper.semAt_some
set_option linter.unusedVariables false
set_option linter.unusedSimpArgs false
def nameZ : List (List UInt8) := [[], [114, 105, 103, 104, 116], [114, 101, 102, 117, 115, 101], [115, 105, 108, 101, 110, 116], [99, 117, 116], [115, 112, 111, 105, 108], [111, 116, 104, 101, 114], [110, 111, 105, 115, 101]]
def nameS (i : Nat) : ByteArray := ⟨(nameZ.getD i []).toArray⟩
def NamesT (w : World) : Prop := ∀ i, i < 8 → w.cell? ⟨0, i, none⟩ = some (.string (nameS i))
theorem NamesT.up {w w' : World} (h : NamesT w) (hb : Below w.heap.size w w') : NamesT w' := fun i hi =>
 (hb.cell (p := ⟨0, i, none⟩) (World.block_lt_of_cell? w _ (h i hi))).trans (h i hi)
def nameB (k : Int) : ByteArray := if 1 ≤ k ∧ k ≤ 7 then nameS k.toNat else ⟨#[]⟩
theorem bname_any (k : Int) (w : World) (hT : NamesT w) : Calls Tryd.prog 25 #[.int .i64 k] w fun e w' => e = .returned (.string (nameB k)) ∧ w = w' := by
 by_cases h1 : k < 1
 ·rw [show nameB k = ⟨#[]⟩ from if_neg (by omega)]
  have d1 : decide (k < 1) = true := decide_eq_true h1
  go_in
  go_wp2
  go_ret
  exact ⟨rfl, rfl⟩
 have d1 : decide (k < 1) = false := decide_eq_false h1
 by_cases h2 : 8 ≤ k
 ·rw [show nameB k = ⟨#[]⟩ from if_neg (by omega)]
  have d2 : decide (8 ≤ k) = true := decide_eq_true h2
  go_in
  go_wp2
  go_ret
  exact ⟨rfl, rfl⟩
 have d2 : decide (8 ≤ k) = false := decide_eq_false h2
 obtain ⟨j, rfl⟩ : ∃ j : Nat, k = j := ⟨k.toNat, by omega⟩
 rw [show nameB (j : Int) = nameS j by unfold nameB; rw [if_pos (by omega)]; rfl]
 have hc := hT j (by omega)
 have hj : (j : Int) < 8 := by omega
 clear hT
 go_in
 go_wp2
 go_ret
 exact ⟨rfl, rfl⟩
def OnlyPost (w : World) (a : ActP) (na nd : Nat) (e : Ending) (w' : World) : Prop := ∃ (A' : Option Addr) (na' ca' : Nat) (oC oN oU oW : Int) (D' : Option Addr) (nd' cd' : Nat),
 e = .returned (.agg #[.int .i64 a.kind, .int .i64 a.wait, .int .i64 a.gap, .slice A' na' ca', .int .i64 oC, .int .i64 oN, .int .i64 oU, .int .u8 oW, .slice D' nd' cd']) ∧
 ((a.kind = 2 → oC = a.code) ∧ (a.kind ≠ 2 → oC = 0)) ∧ ((a.kind = 4 ∨ a.kind = 5 → oN = a.n) ∧ (a.kind ≠ 4 ∧ a.kind ≠ 5 → oN = 0)) ∧ ((a.kind = 6 → oU = a.unit) ∧ (a.kind ≠ 6 → oU = 0)) ∧ ((a.kind = 5 → oW = a.wth) ∧ (a.kind ≠ 5 → oW = 0)) ∧
 ((a.kind = 1 ∨ a.kind = 4 ∨ a.kind = 5 ∨ a.kind = 6 → na' = na) ∧ (a.kind ≠ 1 ∧ a.kind ≠ 4 ∧ a.kind ≠ 5 ∧ a.kind ≠ 6 → na' = 0)) ∧ ((a.kind = 7 → nd' = nd) ∧ (a.kind ≠ 7 → nd' = 0)) ∧ Below w.heap.size w w'
theorem results_c1 {fn : Func} {p : Tmp} {ty t1 : TypeId} (h : fn.results = #[.cell p ty]) (tmps : Array Value) (P : Program) (w : World) (g1 : Nat) (c1 : Array Value) (d1 : TypeDesc)
  (hp : tmps.getD p undef = .pointer (some ⟨g1, 0, none⟩)) (h1 : Held w g1 t1 c1) (hu1 : P.underlying ty = some d1) (hd1 : d1.isRow = true) (hi1 : (P.info? ty).map (·.size) = some c1.size) : (results fn tmps).run P w = .ok (.agg c1) w := by
 have hp' : tmps[p]?.getD undef = .pointer (some ⟨g1, 0, none⟩) := by simpa using hp
 have l1 := run_loadVar_mid w g1 0 ty c1.toList d1 h1.range hu1 hd1 (by simpa using hi1)
 simp [results, h, hp', asAddr, l1]
theorem mid_held (w : World) (a c : Obj) (T : TypeId) (cs : Array Value) : Held (((w.alloc a).alloc (.cells cs T)).alloc c) (w.heap.size + 1) T cs := by
 have h := (Held.new (w.alloc a) T cs).alloc c
 rw [World.size_alloc] at h
 exact h
theorem mid_below (w : World) (a b c : Obj) : Below w.heap.size w (((w.alloc a).alloc b).alloc c) := (((Below.refl _ w).alloc (Nat.le_refl _) _).alloc (by simp) _).alloc (by simp; omega) _
theorem set9 {W : World} {B : Nat} {T : TypeId} {b0 b1 b2 b3 b4 b5 b6 b7 b8 : Value} (h : Held W B T #[b0, b1, b2, b3, b4, b5, b6, b7, b8]) (a0 a1 a2 a3 a4 a5 a6 a7 a8 : Value) : Held (((((((((W.setCell ⟨B, 0, none⟩ a0).setCell ⟨B, 1, none⟩ a1).setCell ⟨B, 2, none⟩ a2).setCell ⟨B, 3, none⟩ a3).setCell ⟨B, 4, none⟩ a4).setCell ⟨B, 5, none⟩ a5).setCell ⟨B, 6, none⟩ a6).setCell ⟨B, 7, none⟩ a7).setCell ⟨B, 8, none⟩ a8) B T #[a0, a1, a2, a3, a4, a5, a6, a7, a8] := by
 have q := ((((((((h.set 0 a0).set 1 a1).set 2 a2).set 3 a3).set 4 a4).set 5 a5).set 6 a6).set 7 a7).set 8 a8
 simpa using q
theorem below9 {A W : World} {n B : Nat} (h : Below n A W) (hB : n ≤ B) (a0 a1 a2 a3 a4 a5 a6 a7 a8 : Value) : Below n A (((((((((W.setCell ⟨B, 0, none⟩ a0).setCell ⟨B, 1, none⟩ a1).setCell ⟨B, 2, none⟩ a2).setCell ⟨B, 3, none⟩ a3).setCell ⟨B, 4, none⟩ a4).setCell ⟨B, 5, none⟩ a5).setCell ⟨B, 6, none⟩ a6).setCell ⟨B, 7, none⟩ a7).setCell ⟨B, 8, none⟩ a8) :=
 ((((((((h.setCell (p := ⟨B, 0, none⟩) hB _).setCell (p := ⟨B, 1, none⟩) hB _).setCell (p := ⟨B, 2, none⟩) hB _).setCell (p := ⟨B, 3, none⟩) hB _).setCell (p := ⟨B, 4, none⟩) hB _).setCell (p := ⟨B, 5, none⟩) hB _).setCell (p := ⟨B, 6, none⟩) hB _).setCell (p := ⟨B, 7, none⟩) hB _).setCell (p := ⟨B, 8, none⟩) hB _
theorem only_1 (a : ActP) (A : Option Addr) (na ca : Nat) (D : Option Addr) (nd cd : Nat) (w : World) (hk : a.kind = 1) :
  Calls Tryd.prog 55 #[.agg (a.cells A na ca D nd cd)] w (OnlyPost w a na nd) := by
 obtain ⟨kind, wait, gap, regs, code, n, unit, wth, data⟩ := a
 dsimp only at hk
 subst hk
 unfold ActP.cells
 dsimp only
 go_in
 go_wp2_with fail
 exact bodyPost_ret (results_c1 rfl _ _ _ _ _ _ (by kernel_rfl) (mid_held w _ _ _ _) Tryd.underlying29 (by kernel_rfl) (by kernel_rfl)) rfl ⟨A, na, ca, 0, 0, 0, 0, none, 0, 0, rfl, by dsimp only; omega, by dsimp only; omega, by dsimp only; omega, by dsimp only; omega, by dsimp only; omega, by dsimp only; omega, mid_below w _ _ _⟩
theorem only_2 (a : ActP) (A : Option Addr) (na ca : Nat) (D : Option Addr) (nd cd : Nat) (w : World) (hk : a.kind = 2) :
  Calls Tryd.prog 55 #[.agg (a.cells A na ca D nd cd)] w (OnlyPost w a na nd) := by
 obtain ⟨kind, wait, gap, regs, code, n, unit, wth, data⟩ := a
 dsimp only at hk
 subst hk
 unfold ActP.cells
 dsimp only
 go_in
 go_wp2_with fail
 exact bodyPost_ret (results_c1 rfl _ _ _ _ _ _ (by kernel_rfl) (mid_held w _ _ _ _) Tryd.underlying29 (by kernel_rfl) (by kernel_rfl)) rfl ⟨none, 0, 0, code, 0, 0, 0, none, 0, 0, rfl, by dsimp only; omega, by dsimp only; omega, by dsimp only; omega, by dsimp only; omega, by dsimp only; omega, by dsimp only; omega, mid_below w _ _ _⟩
theorem only_3 (a : ActP) (A : Option Addr) (na ca : Nat) (D : Option Addr) (nd cd : Nat) (w : World) (hk : a.kind = 3) :
  Calls Tryd.prog 55 #[.agg (a.cells A na ca D nd cd)] w (OnlyPost w a na nd) := by
 obtain ⟨kind, wait, gap, regs, code, n, unit, wth, data⟩ := a
 dsimp only at hk
 subst hk
 unfold ActP.cells
 dsimp only
 go_in
 go_wp2_with fail
 exact bodyPost_ret (results_c1 rfl _ _ _ _ _ _ (by kernel_rfl) (mid_held w _ _ _ _) Tryd.underlying29 (by kernel_rfl) (by kernel_rfl)) rfl ⟨none, 0, 0, 0, 0, 0, 0, none, 0, 0, rfl, by dsimp only; omega, by dsimp only; omega, by dsimp only; omega, by dsimp only; omega, by dsimp only; omega, by dsimp only; omega, mid_below w _ _ _⟩
theorem only_4 (a : ActP) (A : Option Addr) (na ca : Nat) (D : Option Addr) (nd cd : Nat) (w : World) (hk : a.kind = 4) :
  Calls Tryd.prog 55 #[.agg (a.cells A na ca D nd cd)] w (OnlyPost w a na nd) := by
 obtain ⟨kind, wait, gap, regs, code, n, unit, wth, data⟩ := a
 dsimp only at hk
 subst hk
 unfold ActP.cells
 dsimp only
 go_in
 go_wp2_with fail
 exact bodyPost_ret (results_c1 rfl _ _ _ _ _ _ (by kernel_rfl) (mid_held w _ _ _ _) Tryd.underlying29 (by kernel_rfl) (by kernel_rfl)) rfl ⟨A, na, ca, 0, n, 0, 0, none, 0, 0, rfl, by dsimp only; omega, by dsimp only; omega, by dsimp only; omega, by dsimp only; omega, by dsimp only; omega, by dsimp only; omega, mid_below w _ _ _⟩
theorem only_5 (a : ActP) (A : Option Addr) (na ca : Nat) (D : Option Addr) (nd cd : Nat) (w : World) (hk : a.kind = 5) :
  Calls Tryd.prog 55 #[.agg (a.cells A na ca D nd cd)] w (OnlyPost w a na nd) := by
 obtain ⟨kind, wait, gap, regs, code, n, unit, wth, data⟩ := a
 dsimp only at hk
 subst hk
 unfold ActP.cells
 dsimp only
 go_in
 go_wp2_with fail
 exact bodyPost_ret (results_c1 rfl _ _ _ _ _ _ (by kernel_rfl) (mid_held w _ _ _ _) Tryd.underlying29 (by kernel_rfl) (by kernel_rfl)) rfl ⟨A, na, ca, 0, n, 0, wth, none, 0, 0, rfl, by dsimp only; omega, by dsimp only; omega, by dsimp only; omega, by dsimp only; omega, by dsimp only; omega, by dsimp only; omega, mid_below w _ _ _⟩
theorem only_6 (a : ActP) (A : Option Addr) (na ca : Nat) (D : Option Addr) (nd cd : Nat) (w : World) (hk : a.kind = 6) :
  Calls Tryd.prog 55 #[.agg (a.cells A na ca D nd cd)] w (OnlyPost w a na nd) := by
 obtain ⟨kind, wait, gap, regs, code, n, unit, wth, data⟩ := a
 dsimp only at hk
 subst hk
 unfold ActP.cells
 dsimp only
 go_in
 go_wp2_with fail
 obtain ⟨W, hW⟩ : ∃ W, ((w.alloc (.cells #[.int .i64 6, .int .i64 wait, .int .i64 gap, .slice A na ca, .int .i64 code, .int .i64 n, .int .i64 unit, .int .u8 wth, .slice D nd cd] 29)).alloc (.cells #[.int .i64 0, .int .i64 0, .int .i64 0, .slice none 0 0, .int .i64 0, .int .i64 0, .int .i64 0, .int .u8 0, .slice none 0 0] 29)).alloc (.cells #[.int .i64 6, .int .i64 wait, .int .i64 gap, .slice none 0 0, .int .i64 0, .int .i64 0, .int .i64 0, .int .u8 0, .slice none 0 0] 29) = W := ⟨_, rfl⟩
 have hX : Held W w.heap.size 29 #[.int .i64 6, .int .i64 wait, .int .i64 gap, .slice A na ca, .int .i64 code, .int .i64 n, .int .i64 unit, .int .u8 wth, .slice D nd cd] := by rw [← hW]; exact ((Held.new w _ _).alloc _).alloc _
 have hY : Held W (w.heap.size + 1) 29 #[.int .i64 0, .int .i64 0, .int .i64 0, .slice none 0 0, .int .i64 0, .int .i64 0, .int .i64 0, .int .u8 0, .slice none 0 0] := by rw [← hW]; exact mid_held w _ _ _ _
 have hZ : Held W (w.heap.size + 1 + 1) 29 #[.int .i64 6, .int .i64 wait, .int .i64 gap, .slice none 0 0, .int .i64 0, .int .i64 0, .int .i64 0, .int .u8 0, .slice none 0 0] := by
  rw [← hW]
  have h := Held.new ((w.alloc (.cells #[.int .i64 6, .int .i64 wait, .int .i64 gap, .slice A na ca, .int .i64 code, .int .i64 n, .int .i64 unit, .int .u8 wth, .slice D nd cd] 29)).alloc (.cells #[.int .i64 0, .int .i64 0, .int .i64 0, .slice none 0 0, .int .i64 0, .int .i64 0, .int .i64 0, .int .u8 0, .slice none 0 0] 29)) 29 #[.int .i64 6, .int .i64 wait, .int .i64 gap, .slice none 0 0, .int .i64 0, .int .i64 0, .int .i64 0, .int .u8 0, .slice none 0 0]
  rw [World.size_alloc, World.size_alloc] at h
  exact h
 have hb : Below w.heap.size w W := by rw [← hW]; exact mid_below w _ _ _
 rw [hW]
 clear hW
 obtain ⟨-, -, -, x3, -, -, x6, -⟩ := zC9 hX
 obtain ⟨-, -, -, z3, -, -, z6, -⟩ := zC9 hZ
 have f3 := hZ.frozen 3
 have f6 := hZ.frozen 6
 have hlz := hZ.lt
 go_region
 obtain ⟨W2, hW2⟩ : ∃ Y : World, ((W.setCell ⟨w.heap.size + 1 + 1, 3, none⟩ (.slice A na ca)).setCell ⟨w.heap.size + 1 + 1, 6, none⟩ (.int .i64 unit)).drew = Y := ⟨_, rfl⟩
 have hZ2 : Held W2 (w.heap.size + 1 + 1) 29 #[.int .i64 6, .int .i64 wait, .int .i64 gap, .slice A na ca, .int .i64 0, .int .i64 0, .int .i64 unit, .int .u8 0, .slice none 0 0] := by
  rw [← hW2]
  have h := ((hZ.set 3 (.slice A na ca)).set 6 (.int .i64 unit)).drew
  simpa using h
 have hY2 : Held W2 (w.heap.size + 1) 29 #[.int .i64 0, .int .i64 0, .int .i64 0, .slice none 0 0, .int .i64 0, .int .i64 0, .int .i64 0, .int .u8 0, .slice none 0 0] := by
  rw [← hW2]
  exact ((hY.far (by show w.heap.size + 1 ≠ w.heap.size + 1 + 1; omega) _).far (by show w.heap.size + 1 ≠ w.heap.size + 1 + 1; omega) _).drew
 have hb2 : Below w.heap.size w W2 := by
  rw [← hW2]
  exact ((hb.setCell (p := ⟨w.heap.size + 1 + 1, 3, none⟩) (by show w.heap.size ≤ w.heap.size + 1 + 1; omega) _).setCell (p := ⟨w.heap.size + 1 + 1, 6, none⟩) (by show w.heap.size ≤ w.heap.size + 1 + 1; omega) _).drew
 rw [hW2]
 clear hW2 x3 x6 z3 z6 f3 f6 hX hY hZ hb hlz
 have z0 := hZ2.cell 0
 have y0 := hY2.cell 0
 have f0 := hY2.frozen 0
 have z1 := hZ2.cell 1
 have y1 := hY2.cell 1
 have f1 := hY2.frozen 1
 have z2 := hZ2.cell 2
 have y2 := hY2.cell 2
 have f2 := hY2.frozen 2
 have z3 := hZ2.cell 3
 have y3 := hY2.cell 3
 have f3 := hY2.frozen 3
 have z4 := hZ2.cell 4
 have y4 := hY2.cell 4
 have f4 := hY2.frozen 4
 have z5 := hZ2.cell 5
 have y5 := hY2.cell 5
 have f5 := hY2.frozen 5
 have z6 := hZ2.cell 6
 have y6 := hY2.cell 6
 have f6 := hY2.frozen 6
 have z7 := hZ2.cell 7
 have y7 := hY2.cell 7
 have f7 := hY2.frozen 7
 have z8 := hZ2.cell 8
 have y8 := hY2.cell 8
 have f8 := hY2.frozen 8
 simp only [List.getElem?_toArray, List.getElem?_cons_zero, List.getElem?_cons_succ] at z0 z1 z2 z3 z4 z5 z6 z7 z8 y0 y1 y2 y3 y4 y5 y6 y7 y8
 have hlz := hZ2.lt
 have HB2 := Lib.hid (And.intro hY2 hb2)
 clear hZ2 hY2 hb2
 go_wp2_with fail
 exact bodyPost_ret (results_c1 rfl _ _ _ _ _ _ (by kernel_rfl) (set9 HB2.out.1 _ _ _ _ _ _ _ _ _) Tryd.underlying29 (by kernel_rfl) (by kernel_rfl)) rfl ⟨A, na, ca, 0, 0, unit, 0, none, 0, 0, rfl, by dsimp only; omega, by dsimp only; omega, by dsimp only; omega, by dsimp only; omega, by dsimp only; omega, by dsimp only; omega, below9 HB2.out.2 (by omega) _ _ _ _ _ _ _ _ _⟩
theorem only_7 (a : ActP) (A : Option Addr) (na ca : Nat) (D : Option Addr) (nd cd : Nat) (w : World) (hk : a.kind = 7) :
  Calls Tryd.prog 55 #[.agg (a.cells A na ca D nd cd)] w (OnlyPost w a na nd) := by
 obtain ⟨kind, wait, gap, regs, code, n, unit, wth, data⟩ := a
 dsimp only at hk
 subst hk
 unfold ActP.cells
 dsimp only
 go_in
 go_wp2_with fail
 exact bodyPost_ret (results_c1 rfl _ _ _ _ _ _ (by kernel_rfl) (mid_held w _ _ _ _) Tryd.underlying29 (by kernel_rfl) (by kernel_rfl)) rfl ⟨none, 0, 0, 0, 0, 0, 0, D, nd, cd, rfl, by dsimp only; omega, by dsimp only; omega, by dsimp only; omega, by dsimp only; omega, by dsimp only; omega, by dsimp only; omega, mid_below w _ _ _⟩
theorem only_0 (a : ActP) (A : Option Addr) (na ca : Nat) (D : Option Addr) (nd cd : Nat) (w : World) (hk : ¬ (1 ≤ a.kind ∧ a.kind ≤ 7)) :
  Calls Tryd.prog 55 #[.agg (a.cells A na ca D nd cd)] w (OnlyPost w a na nd) := by
 obtain ⟨kind, wait, gap, regs, code, n, unit, wth, data⟩ := a
 dsimp only at hk
 have b1 : (kind == 1) = false := by simp; omega
 have b2 : (kind == 2) = false := by simp; omega
 have b3 : (kind == 3) = false := by simp; omega
 have b4 : (kind == 4) = false := by simp; omega
 have b5 : (kind == 5) = false := by simp; omega
 have b6 : (kind == 6) = false := by simp; omega
 have b7 : (kind == 7) = false := by simp; omega
 unfold ActP.cells
 dsimp only
 go_in
 go_wp2_with fail
 exact bodyPost_ret (results_c1 rfl _ _ _ _ _ _ (by kernel_rfl) (mid_held w _ _ _ _) Tryd.underlying29 (by kernel_rfl) (by kernel_rfl)) rfl ⟨none, 0, 0, 0, 0, 0, 0, none, 0, 0, rfl, by dsimp only; omega, by dsimp only; omega, by dsimp only; omega, by dsimp only; omega, by dsimp only; omega, by dsimp only; omega, mid_below w _ _ _⟩
theorem only_any (a : ActP) (A : Option Addr) (na ca : Nat) (D : Option Addr) (nd cd : Nat) (w : World) :
  Calls Tryd.prog 55 #[.agg (a.cells A na ca D nd cd)] w (OnlyPost w a na nd) := by
 by_cases h : 1 ≤ a.kind ∧ a.kind ≤ 7
 ·rcases (show a.kind = 1 ∨ a.kind = 2 ∨ a.kind = 3 ∨ a.kind = 4 ∨ a.kind = 5 ∨ a.kind = 6 ∨ a.kind = 7 by omega) with h | h | h | h | h | h | h
  ·exact only_1 a A na ca D nd cd w h
  ·exact only_2 a A na ca D nd cd w h
  ·exact only_3 a A na ca D nd cd w h
  ·exact only_4 a A na ca D nd cd w h
  ·exact only_5 a A na ca D nd cd w h
  ·exact only_6 a A na ca D nd cd w h
  ·exact only_7 a A na ca D nd cd w h
 ·exact only_0 a A na ca D nd cd w h
end Go.Proofs.YtcipleanckeoaaaDoor
