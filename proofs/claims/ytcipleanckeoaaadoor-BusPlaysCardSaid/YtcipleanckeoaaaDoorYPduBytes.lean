/- pdu.Bytes: what the functions share. -/
import Derived.Test.YtcipleanckeoaaaDoorYPduCheck
import Derived.Test.YtcipleanckeoaaaDoorYPduBase
namespace Go.Proofs.YtcipleanckeoaaaDoor
open Go.RowKit
set_option linter.unusedVariables false
theorem lit_own (base : Nat) (w : World) (x : Int) (h : base ≤ w.heap.size) : (w.alloc (.cells #[.int .u8 x] 5)).ownsRow base 5 1 (.slice (some ⟨w.heap.size, 0, none⟩) 1 1) 1 ([x].map (Value.int .u8)) := World.ownsRow_lit w #[.int .u8 x] 1 h (by unfold maxLen; omega) rfl
theorem reg_of {ys : List Int} (h : Reg16 ys) : ∃ zs : List Reg, zs.map (·.1) = ys ∧ bytesOf zs = twosI ys := by
 induction ys with
 | nil => exact ⟨[], rfl, rfl⟩
 | cons a t ih =>
  obtain ⟨zs, h1, h2⟩ := ih fun x hx => h x (by simp [hx])
  refine ⟨⟨a, h a (by simp)⟩ :: zs, by simp [h1], ?_⟩
  rw [twosI_cons, ← h2]
  simp [bytesOf]
theorem rbytes_any (R : Option Addr) (nr cr : Nat) (ys : List Int) (hn : nr ≤ 100000) (hy : Reg16 ys) (w : World) (hR : SlI w w.heap.size .u16 R nr cr ys) :
  Calls Tryd.prog 65 #[.slice R nr cr] w fun e w' => ∃ v, e = .returned v ∧ w'.ownsRow w.heap.size 5 1 v (2 * nr) ((twosI ys).map (Value.int .u8)) ∧ Below w.heap.size w w' := by
 obtain ⟨zs, h1, h2⟩ := reg_of hy
 have hl : zs.length = nr := by rw [← hR.1, ← h1, List.length_map]
 refine (bytes_any R nr cr zs (by omega) hl w (by rw [h1]; exact hR.2.2.2.2)).mono ?_
 rintro e w' ⟨v, rfl, ho, hb⟩
 rw [bytesOf_len, hl, h2] at ho
 exact ⟨v, rfl, ho, hb⟩
end Go.Proofs.YtcipleanckeoaaaDoor
