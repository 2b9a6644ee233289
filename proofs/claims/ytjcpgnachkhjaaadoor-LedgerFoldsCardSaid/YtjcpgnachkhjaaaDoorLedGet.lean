/- entry.Name, get, set, bounds. -/
import Derived.Test.YtjcpgnachkhjaaaDoorRows
import Derived.Test.YtjcpgnachkhjaaaDoorLedPlain
import Derived.Test.YtjcpgnachkhjaaaDoorQuiet
import Derived.Deep.QuietTactic
import Derived.BigQuiet
import Derived.Lib.Hide
import Derived.WalkKit
import Derived.WalkLawsBesides
import Derived.WalkSpells
namespace Go.Proofs.YtjcpgnachkhjaaaDoor
open Go.RowKit
attribute [local go_sem] Oper.semAt_some
set_option linter.unusedVariables false
set_option linter.unusedSimpArgs false
set_option maxRecDepth 100000

/-- The words of the kinds. -/
def wordS (i : Nat) : ByteArray := match i with
  | 1 => ⟨#[105, 110, 116, 101, 114, 118, 97, 108]⟩
  | 2 => ⟨#[115, 117, 115, 112, 101, 99, 116]⟩
  | 3 => ⟨#[114, 101, 112, 108, 97, 99, 101]⟩
  | 4 => ⟨#[99, 111, 114, 114, 101, 99, 116]⟩
  | 5 => ⟨#[115, 101, 97, 108]⟩
  | _ => ⟨#[]⟩
def WordsT (w : World) : Prop := ∀ i, i < 6 → w.cell? ⟨0, i, none⟩ = some (.string (wordS i))
theorem WordsT.up {w w' : World} (h : WordsT w) (hb : Below w.heap.size w w') : WordsT w' := fun i hi =>
  (hb.cell (p := ⟨0, i, none⟩) (World.block_lt_of_cell? w _ (h i hi))).trans (h i hi)
def nameS (k : Int) : ByteArray := if 0 ≤ k ∧ k < 6 then wordS k.toNat else ⟨#[]⟩
theorem name_own (k : Int) (w : World) (hT : WordsT w) : Calls Tryd.prog 44 #[.int .i64 k] w fun e w' => e = .returned (.string (nameS k)) ∧ w' = w := by
  have HT := Lib.hid hT
  clear hT
  by_cases h : 0 ≤ k ∧ k < 6
  · obtain ⟨n, rfl⟩ : ∃ n : Nat, k = n := ⟨k.toNat, by omega⟩
    have e : nameS n = wordS n := by unfold nameS; rw [if_pos h]; rfl
    rw [e]
    have hc := HT.out n (by omega)
    go_in
    go_wp2
    go_ret
    exact ⟨rfl, rfl⟩
  · have e : nameS k = ⟨#[]⟩ := by unfold nameS; rw [if_neg h]
    rw [e]
    go_in
    go_wp2
    all_goals (try (exfalso; omega))
    all_goals (go_ret; exact ⟨rfl, rfl⟩)

def lettersN : List Int := [109, 116, 101, 98, 112, 99, 102, 110, 115]
theorem get_own (x : Ent) (hx : x.ok) (f : Int) (hf : f ∈ lettersN) (w : World) : Calls Tryd.prog 46 #[.agg x.arr, .int .u8 f] w fun e w' => e = .returned (.int .i64 (getE x f)) ∧ w' = w.alloc (.cells x.arr 28) := by
  have hD : Held (w.alloc (.cells x.arr 28)) w.heap.size 28 x.arr := Held.new w _ _
  obtain ⟨c0, c1, c2, c3, c4, c5, c6, c7, c8, c9⟩ := ent_cells hD
  have hn := wrap_u32_i64 x.count hx.2.2.2.2.2.2.2.2.1
  clear hx
  obtain ⟨X, hX⟩ : ∃ X, x.arr = X := ⟨_, rfl⟩
  rw [hX] at hD c0 c1 c2 c3 c4 c5 c6 c7 c8 c9 ⊢
  simp only [lettersN, List.mem_cons, List.not_mem_nil, or_false] at hf
  rcases hf with rfl | rfl | rfl | rfl | rfl | rfl | rfl | rfl | rfl
  all_goals
    go_in
    go_wp2
    go_ret
    exact ⟨by first | (simp [getE, hn]; done) | (simp [getE, IntKind.wrap_i64, wrap64]; done), rfl⟩
theorem bounds_own (k f : Int) (hf : f ∈ lettersN) (w : World) : Calls Tryd.prog 48 #[.int .i64 k, .int .u8 f] w fun e w' => e = .returned (.tuple #[.int .i64 (boundE k f).1, .int .i64 (boundE k f).2.1, .bool (boundE k f).2.2]) ∧ w' = w := by
  simp only [lettersN, List.mem_cons, List.not_mem_nil, or_false] at hf
  by_cases h4 : k = 4
  · subst h4
    rcases hf with rfl | rfl | rfl | rfl | rfl | rfl | rfl | rfl | rfl
    all_goals
      go_in
      go_wp2
      go_ret3
      exact ⟨by simp [boundE], rfl⟩
  · rcases hf with rfl | rfl | rfl | rfl | rfl | rfl | rfl | rfl | rfl
    all_goals
      go_in
      go_wp2
      go_ret3
      exact ⟨by simp [boundE, h4], rfl⟩
/-- A field's cell, and what it then holds. -/
def atE (f : Int) : Nat := if f = 109 then 1 else if f = 116 then 2 else if f = 101 then 3 else if f = 98 then 4 else if f = 112 then 5 else if f = 99 then 6 else if f = 102 then 7 else if f = 110 then 8 else 9
def valE (f n : Int) : Value := if f = 110 then .int .u32 (IntKind.u32.wrap n) else if f = 115 then .int .u64 (IntKind.u64.wrap n) else .int .i64 n
theorem setE_arr (e : Ent) (f n : Int) (hf : f ∈ lettersN) : e.arr.setIfInBounds (atE f) (valE f n) = (setE e f n).arr := by
  simp only [lettersN, List.mem_cons, List.not_mem_nil, or_false] at hf
  rcases hf with rfl | rfl | rfl | rfl | rfl | rfl | rfl | rfl | rfl <;> simp [atE, valE, setE, Ent.arr, Ent.cells]
theorem set_own (y : Ent) (f n : Int) (hf : f ∈ lettersN) (w : World) (g : Nat) (t : TypeId) (hD : Held w g t y.arr) : Calls Tryd.prog 47 #[.pointer (some ⟨g, 0, none⟩), .int .u8 f, .int .i64 n] w fun e w' => (∃ v, e = .returned v) ∧ w' = w.setCell ⟨g, atE f, none⟩ (valE f n) ∧ Held w' g t (setE y f n).arr := by
  obtain ⟨c0, c1, c2, c3, c4, c5, c6, c7, c8, c9⟩ := ent_cells hD
  have fz := fun i => hD.frozen i
  have fz1 := fz 1
  have fz2 := fz 2
  have fz3 := fz 3
  have fz4 := fz 4
  have fz5 := fz 5
  have fz6 := fz 6
  have fz7 := fz 7
  have fz8 := fz 8
  have fz9 := fz 9
  clear fz
  have HS := Lib.hid (show Held (w.setCell ⟨g, atE f, none⟩ (valE f n)) g t (setE y f n).arr by rw [← setE_arr y f n hf]; exact hD.set _ _)
  clear hD
  simp only [lettersN, List.mem_cons, List.not_mem_nil, or_false] at hf
  rcases hf with rfl | rfl | rfl | rfl | rfl | rfl | rfl | rfl | rfl
  all_goals
    go_in
    go_wp2
    go_end0
    have hS := HS.out
    exact ⟨⟨_, rfl⟩, by first | rfl | simp [atE, valE], by first | exact hS | simpa [atE, valE] using hS⟩
end Go.Proofs.YtjcpgnachkhjaaaDoor
