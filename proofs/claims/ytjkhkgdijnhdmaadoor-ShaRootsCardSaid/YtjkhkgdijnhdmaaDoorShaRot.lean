/- bits.RotateLeft32 at the turns that the hash has; the state, and the rows, as values. -/
import Derived.Test.YtjkhkgdijnhdmaaDoorRows
import Derived.Test.YtjkhkgdijnhdmaaDoorMemB
import Derived.Test.YtjkhkgdijnhdmaaDoorTab
import Derived.Test.YtjkhkgdijnhdmaaDoorQuiet
import Derived.Test.YtjkhkgdijnhdmaaDoorBoxes
import Derived.Test.YtjkhkgdijnhdmaaDoorShaCore
import Derived.WalkKit
import Derived.WalkSpells
import Derived.WalkLawsBesides
import Derived.BigQuiet
import Derived.Deep.QuietTactic
import Derived.Deep.MidRow
import Derived.Lib.Hide
namespace Go.Proofs.YtjkhkgdijnhdmaaDoor
open Go.RowKit

theorem rot_plain (x n m : Nat) (p q : Int) (hx : x < 4294967296) (hp : p = (2 : Int) ^ m) (hq : q = (2 : Int) ^ n) (hm : m = 32 - n) : bits BinOp.or IntKind.u32 ((x : Int) * p % 4294967296) ((x : Int) / q) = ((Sh.rotr x n : Nat) : Int) := by
  subst hp hq hm
  have e1 : (x : Int) * 2 ^ (32 - n) % 4294967296 = ((x * 2 ^ (32 - n) % 4294967296 : Nat) : Int) := by simp
  have e2 : (x : Int) / 2 ^ n = ((x / 2 ^ n : Nat) : Int) := by simp
  rw [e1, e2, u32_or_nat _ _ (by omega) (Nat.lt_of_le_of_lt (Nat.div_le_self _ _) hx)]
  rfl
theorem rot_2 (x : Nat) (hx : x < 4294967296) (w : World) : Calls Tryd.prog 56 #[.int .u32 x, .int .i64 (-2)] w fun e w' => e = .returned (.int .u32 (Sh.rotr x 2 : Nat)) ∧ w = w' := by
  have e : bits BinOp.and IntKind.u64 (IntKind.u64.wrap (-2)) 31 = 30 := by decide +kernel
  have H := rot_plain x 2 30 1073741824 4 hx (by decide) (by decide) rfl
  go_in; go_wp2; go_ret; exact ⟨reti (by rw [← H]), rfl⟩
theorem rot_6 (x : Nat) (hx : x < 4294967296) (w : World) : Calls Tryd.prog 56 #[.int .u32 x, .int .i64 (-6)] w fun e w' => e = .returned (.int .u32 (Sh.rotr x 6 : Nat)) ∧ w = w' := by
  have e : bits BinOp.and IntKind.u64 (IntKind.u64.wrap (-6)) 31 = 26 := by decide +kernel
  have H := rot_plain x 6 26 67108864 64 hx (by decide) (by decide) rfl
  go_in; go_wp2; go_ret; exact ⟨reti (by rw [← H]), rfl⟩
theorem rot_7 (x : Nat) (hx : x < 4294967296) (w : World) : Calls Tryd.prog 56 #[.int .u32 x, .int .i64 (-7)] w fun e w' => e = .returned (.int .u32 (Sh.rotr x 7 : Nat)) ∧ w = w' := by
  have e : bits BinOp.and IntKind.u64 (IntKind.u64.wrap (-7)) 31 = 25 := by decide +kernel
  have H := rot_plain x 7 25 33554432 128 hx (by decide) (by decide) rfl
  go_in; go_wp2; go_ret; exact ⟨reti (by rw [← H]), rfl⟩
theorem rot_11 (x : Nat) (hx : x < 4294967296) (w : World) : Calls Tryd.prog 56 #[.int .u32 x, .int .i64 (-11)] w fun e w' => e = .returned (.int .u32 (Sh.rotr x 11 : Nat)) ∧ w = w' := by
  have e : bits BinOp.and IntKind.u64 (IntKind.u64.wrap (-11)) 31 = 21 := by decide +kernel
  have H := rot_plain x 11 21 2097152 2048 hx (by decide) (by decide) rfl
  go_in; go_wp2; go_ret; exact ⟨reti (by rw [← H]), rfl⟩
theorem rot_13 (x : Nat) (hx : x < 4294967296) (w : World) : Calls Tryd.prog 56 #[.int .u32 x, .int .i64 (-13)] w fun e w' => e = .returned (.int .u32 (Sh.rotr x 13 : Nat)) ∧ w = w' := by
  have e : bits BinOp.and IntKind.u64 (IntKind.u64.wrap (-13)) 31 = 19 := by decide +kernel
  have H := rot_plain x 13 19 524288 8192 hx (by decide) (by decide) rfl
  go_in; go_wp2; go_ret; exact ⟨reti (by rw [← H]), rfl⟩
theorem rot_17 (x : Nat) (hx : x < 4294967296) (w : World) : Calls Tryd.prog 56 #[.int .u32 x, .int .i64 (-17)] w fun e w' => e = .returned (.int .u32 (Sh.rotr x 17 : Nat)) ∧ w = w' := by
  have e : bits BinOp.and IntKind.u64 (IntKind.u64.wrap (-17)) 31 = 15 := by decide +kernel
  have H := rot_plain x 17 15 32768 131072 hx (by decide) (by decide) rfl
  go_in; go_wp2; go_ret; exact ⟨reti (by rw [← H]), rfl⟩
theorem rot_18 (x : Nat) (hx : x < 4294967296) (w : World) : Calls Tryd.prog 56 #[.int .u32 x, .int .i64 (-18)] w fun e w' => e = .returned (.int .u32 (Sh.rotr x 18 : Nat)) ∧ w = w' := by
  have e : bits BinOp.and IntKind.u64 (IntKind.u64.wrap (-18)) 31 = 14 := by decide +kernel
  have H := rot_plain x 18 14 16384 262144 hx (by decide) (by decide) rfl
  go_in; go_wp2; go_ret; exact ⟨reti (by rw [← H]), rfl⟩
theorem rot_19 (x : Nat) (hx : x < 4294967296) (w : World) : Calls Tryd.prog 56 #[.int .u32 x, .int .i64 (-19)] w fun e w' => e = .returned (.int .u32 (Sh.rotr x 19 : Nat)) ∧ w = w' := by
  have e : bits BinOp.and IntKind.u64 (IntKind.u64.wrap (-19)) 31 = 13 := by decide +kernel
  have H := rot_plain x 19 13 8192 524288 hx (by decide) (by decide) rfl
  go_in; go_wp2; go_ret; exact ⟨reti (by rw [← H]), rfl⟩
theorem rot_22 (x : Nat) (hx : x < 4294967296) (w : World) : Calls Tryd.prog 56 #[.int .u32 x, .int .i64 (-22)] w fun e w' => e = .returned (.int .u32 (Sh.rotr x 22 : Nat)) ∧ w = w' := by
  have e : bits BinOp.and IntKind.u64 (IntKind.u64.wrap (-22)) 31 = 10 := by decide +kernel
  have H := rot_plain x 22 10 1024 4194304 hx (by decide) (by decide) rfl
  go_in; go_wp2; go_ret; exact ⟨reti (by rw [← H]), rfl⟩
theorem rot_25 (x : Nat) (hx : x < 4294967296) (w : World) : Calls Tryd.prog 56 #[.int .u32 x, .int .i64 (-25)] w fun e w' => e = .returned (.int .u32 (Sh.rotr x 25 : Nat)) ∧ w = w' := by
  have e : bits BinOp.and IntKind.u64 (IntKind.u64.wrap (-25)) 31 = 7 := by decide +kernel
  have H := rot_plain x 25 7 128 33554432 hx (by decide) (by decide) rfl
  go_in; go_wp2; go_ret; exact ⟨reti (by rw [← H]), rfl⟩
end Go.Proofs.YtjkhkgdijnhdmaaDoor
