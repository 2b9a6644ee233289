/- A Sha, in memory; (*Sha).begin, Len. -/
import Derived.Test.YtjkhkgdijnhdmaaDoorShaMix
namespace Go.Proofs.YtjkhkgdijnhdmaaDoor
open Go.RowKit

/-- A Sha's cells. -/
def shC (s : Sh.St) (v : Value) (n : Nat) (bg : Bool) : Array Value := #[.int .u32 (s.a : Nat), .int .u32 (s.b : Nat), .int .u32 (s.c : Nat), .int .u32 (s.d : Nat), .int .u32 (s.e : Nat), .int .u32 (s.f : Nat), .int .u32 (s.g : Nat), .int .u32 (s.h : Nat), v, .int .u64 (n : Nat), .bool bg]
theorem shInfo : (Tryd.prog.info? 30).map (fun i => (i.zero, i.size)) = some (some (.agg (shC st0 (.slice none 0 0) 0 false)), 11) := by kernel_rfl
theorem shSize : (Tryd.prog.info? 30).map (·.size) = some 11 := by kernel_rfl
/-- What stands in a Sha that took these bytes. -/
def StOf (s : Sh.St) (bg : Bool) (all : List Nat) : Prop := (bg = true ∧ s = Sh.stateOf all) ∨ (bg = false ∧ s = st0 ∧ all = [])
/-- At block g lies a Sha that took 'all'; v is its rest. -/
def ShaAt (w : World) (B g : Nat) (v : Value) (all : List Nat) : Prop :=
  ∃ s bg, Held w g 30 (shC s v all.length bg) ∧ StOf s bg all ∧ B ≤ g ∧ w.ownsRow B 5 1 v (Sh.restOf all).length ((nI (Sh.restOf all)).map (Value.int .u8)) ∧ all.length ≤ 1000000 ∧ ∀ x ∈ all, x < 256
theorem stateOf_nil : Sh.stateOf [] = Sh.first := rfl
def firstI : List Int := nI Sh.first.list
/-- The first state, laid up to j. -/
def laid (j : Nat) : List Nat := Sh.first.list.take j ++ List.replicate (8 - j) 0
def lC (j : Nat) (v : Value) (n : Nat) : Array Value := ((laid j).map (fun (x : Nat) => Value.int .u32 (x : Int)) ++ [v, .int .u64 (n : Nat), .bool true]).toArray
theorem lC_start (v : Value) (n : Nat) : lC 0 v n = shC st0 v n true := rfl
theorem lC_end (v : Value) (n : Nat) : lC 8 v n = shC Sh.first v n true := rfl
theorem lC_step (v : Value) (n j : Nat) (h : j < 8) : ∃ y : Nat, firstI[j]? = some (y : Int) ∧ (lC j v n)[j]? = some (.int .u32 0) ∧ (lC j v n).setIfInBounds j (.int .u32 y) = lC (j + 1) v n := by
  have : j = 0 ∨ j = 1 ∨ j = 2 ∨ j = 3 ∨ j = 4 ∨ j = 5 ∨ j = 6 ∨ j = 7 := by omega
  rcases this with rfl | rfl | rfl | rfl | rfl | rfl | rfl | rfl <;> exact ⟨_, rfl, rfl, rfl⟩

set_option maxRecDepth 100000 in
set_option maxHeartbeats 2000000 in
/-- begin, where it has begun. -/
theorem begin_yes (g : Nat) (s : Sh.St) (v : Value) (n : Nat) (w : World) (hX : Held w g 30 (shC s v n true)) :
    Calls Tryd.prog 37 #[.pointer (some ⟨g, 0, none⟩)] w fun e w' => (∃ u, e = .returned u) ∧ w' = w := by
  have hc : w.cell? ⟨g, 10, none⟩ = some (.bool true) := hX.cell 10
  go_in
  go_wp2
  go_end0
  exact ⟨⟨_, rfl⟩, rfl⟩
set_option maxRecDepth 100000 in
set_option maxHeartbeats 2000000 in
/-- begin, where it has not. -/
theorem begin_no (g : Nat) (v : Value) (n : Nat) (w : World) (hT : Tab w 0 .u32 firstI) (hg : 0 ≠ g) (hX : Held w g 30 (shC st0 v n false)) :
    Calls Tryd.prog 37 #[.pointer (some ⟨g, 0, none⟩)] w fun e w' => (∃ u, e = .returned u) ∧ Held w' g 30 (shC Sh.first v n true) ∧ w.grownBy w' (some g) := by
  have hc : w.cell? ⟨g, 10, none⟩ = some (.bool false) := hX.cell 10
  have hf := hX.frozen 10
  have HT := Lib.hid hT
  clear hT
  go_in
  go_wp2
  go_loopw [11] (fun i wr => ∃ (j : Nat), j ≤ 8 ∧ i = .int .i64 j ∧ Held wr g 30 (lC j v n) ∧ w.grownBy wr (some g)) (fun i _ => 8 - (intOf i).toNat)
  case atStart => exact ⟨0, by omega, rfl, by rw [lC_start]; exact hX.set 10 (.bool true), grownBy_set (World.grownBy.refl _ _) rfl _⟩
  case round =>
    clear hc hf hX
    obtain ⟨j, hj, rfl, hX, hgr⟩ := hrel
    by_cases hlt : j < 8
    · obtain ⟨y, hy, hc, hset⟩ := lC_step v n j hlt
      have c0 := (hX.cell j).trans hc
      have hfz := hX.frozen j
      have hT1 := HT.out j (by show j < 8; omega)
      have hlt2 := World.block_lt_of_cell? w _ hT1
      have c1 : wr.cell? ⟨0, j, none⟩ = some (.int .u32 y) := by
        have e : firstI.getD j 0 = (y : Int) := by rw [List.getD, hy]; rfl
        rw [← e, ← hT1]
        exact World.cell?_of_block (hgr.block _ hlt2 (by simpa using hg))
      have HS := Lib.hid hset
      clear hy hc hset hT1
      go_wp2
      go_region
      go_wp2
      go_roundw
      case rel =>
        refine ⟨j + 1, by omega, by go_num, ?_, grownBy_drew (grownBy_set hgr rfl _)⟩
        have := (hX.set j (.int .u32 y)).drew
        rw [HS.out] at this
        exact this
      case measure => simp [intOf]; omega
    · obtain rfl : j = 8 := by omega
      rw [lC_end] at hX
      go_wp2
      go_end0
      exact ⟨⟨_, rfl⟩, hX, hgr⟩
set_option maxHeartbeats 2000000 in
theorem len_own (w : World) (B g : Nat) (v : Value) (all : List Nat) (h : ShaAt w B g v all) :
    Calls Tryd.prog 18 #[.pointer (some ⟨g, 0, none⟩)] w fun e w' => e = .returned (.int .u64 (all.length : Nat)) ∧ w = w' := by
  obtain ⟨s, bg, hX, _⟩ := h
  have hc : w.cell? ⟨g, 9, none⟩ = some (.int .u64 (all.length : Nat)) := hX.cell 9
  go_in
  go_wp2
  go_ret
  exact ⟨rfl, rfl⟩
end Go.Proofs.YtjkhkgdijnhdmaaDoor
