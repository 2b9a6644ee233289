/- The statements' Great; arrays of integers in a block. -/
import Derived.Test.YtcipleanckeoaaaDoorPolR
import Derived.Test.YtcipleanckeoaaaDoorPolK
import Derived.Laws.MakeOwn
namespace Go.Proofs.YtcipleanckeoaaaDoor
open Go.RowKit
attribute [local go_sem] Oper.semAt_some
set_option linter.unusedVariables false
set_option linter.unusedSimpArgs false
set_option maxRecDepth 100000
/-- A block of integers. -/
def IntsAt (W : World) (g : Nat) (T : TypeId) (xs : List Int) : Prop := Held W g T (xs.map (Value.int .i64)).toArray
theorem IntsAt.cell {W : World} {g : Nat} {T : TypeId} {xs : List Int} (h : IntsAt W g T xs) {i : Nat} {x : Int} (hx : xs[i]? = some x) : W.cell? ⟨g, i, none⟩ = some (.int .i64 x) := by
  rw [Held.cell h i]
  simp [hx]
theorem IntsAt.frozen {W : World} {g : Nat} {T : TypeId} {xs : List Int} (h : IntsAt W g T xs) (i : Nat) : W.frozen? ⟨g, i, none⟩ = false := Held.frozen h i
theorem IntsAt.set {W : World} {g : Nat} {T : TypeId} {xs : List Int} (h : IntsAt W g T xs) (i : Nat) (y : Int) : IntsAt (W.setCell ⟨g, i, none⟩ (.int .i64 y)) g T (xs.set i y) := by
  have := Held.set h i (.int .i64 y)
  unfold IntsAt
  rw [List.map_set]
  simpa using this
theorem made_ints (n : Nat) : madeCells #[.int .i64 0] n = ((List.replicate n (0 : Int)).map (Value.int .i64)).toArray := by
  apply Array.ext
  · simp [madeCells]
  · intro i h1 h2
    simp [madeCells, Nat.mod_one]
theorem make_ints (T : TypeId) (w : World) (n : Nat) (hn : n ≤ 1000000) (t : TypeId) (ht : Tryd.prog.underlying t = some (.slice T)) (i : TypeInfo) (hi : Tryd.prog.info? T = some i) (hz : i.zero = some (.int .i64 0)) (hs : i.size = 1) (hb : i.bytes ≤ 8) :
    (Instr.makeSlice t (.int .i64 (n : Int)) (.int .i64 (n : Int))).run Tryd.prog w = .ok (.slice (some ⟨w.heap.size, 0, none⟩) n n) (w.alloc (.cells ((List.replicate n (0 : Int)).map (Value.int .i64)).toArray T)) := by
  have h := run_make (P := Tryd.prog) w t T i (.int .i64 0) ht hi hz .i64 .i64 n n (by omega) (Int.le_refl _) (by
    have : (i.bytes : Int) * (n : Int) ≤ 8 * n := Int.mul_le_mul_of_nonneg_right (by omega) (by omega)
    omega) (by omega)
  rw [h, hs]
  simp only [Int.toNat_natCast, Nat.mul_one]
  rw [show (Value.int .i64 0).cells = #[.int .i64 0] from rfl, made_ints]
theorem ints_rep (n : Nat) (x : Value) (y : Int) (h : x = .int .i64 y) : Array.replicate n x = ((List.replicate n y).map (Value.int .i64)).toArray := by
  subst h
  apply Array.ext
  · simp
  · intro i h1 h2
    simp
theorem IntsAt.made (w : World) (T : TypeId) (n : Nat) : IntsAt (w.alloc (.cells (Array.replicate n (.int .i64 0)) T)) w.heap.size T (List.replicate n 0) := by
  unfold IntsAt
  rw [← ints_rep n (.int .i64 0) 0 rfl]
  exact Held.new _ _ _
/-- Great tells this. -/
def GreatV (n m : Nat) (os : List OpP) (v : Int) : Prop := (v = 0 ∧ n ≤ 70 ∧ m ≤ 150 ∧ ∀ o ∈ os, o.pdu.length ≤ 300) ∨ v = 1
set_option maxHeartbeats 2000000 in
theorem great23_any (A : Option Addr) (n cp : Nat) (c : PCf) (B : Option Addr) (m cm : Nat) (os : List OpP) (w : World) (hO : HopI w w.heap.size B m cm os) :
    Calls Tryd.prog 33 #[.agg (polC0 A n cp c), .slice B m cm] w fun e w' => (∃ v, e = .returned (.int .i64 v) ∧ GreatV n m os v) ∧ Below w.heap.size w w' := by
  have hm : m ≤ maxLen := Nat.le_trans hO.2.1 hO.2.2.1
  unfold maxLen at hm
  have HO := Lib.hid (fun (X : World) (h : Below w.heap.size w X) => hO.up h)
  have HL := Lib.hid hO.1
  obtain ⟨w1, hw1⟩ : ∃ W, w.alloc (.cells (polC0 A n cp c) 75) = W := ⟨_, rfl⟩
  have hb1 : Below w.heap.size w w1 := by rw [← hw1]; exact (Below.refl _ w).alloc (Nat.le_refl _) _
  have hK1 : Held w1 w.heap.size 75 (polC0 A n cp c) := by rw [← hw1]; exact Held.new w _ _
  have k0 : w1.cell? ⟨w.heap.size, 0, none⟩ = some (.slice A n cp) := hK1.cell 0
  have hlt1 := hK1.lt
  clear hO
  by_cases hn : 70 < n
  · have hd : decide ((70 : Int) < (n : Int)) = true := decide_eq_true (by omega)
    clear hK1
    go_in
    go_wp2_with fail
    go_ret
    exact ⟨⟨1, rfl, .inr rfl⟩, hb1⟩
  · have hd : decide ((70 : Int) < (n : Int)) = false := decide_eq_false (by omega)
    by_cases hmm : 150 < m
    · have hd2 : decide ((150 : Int) < (m : Int)) = true := decide_eq_true (by omega)
      clear hK1
      go_in
      go_wp2_with fail
      go_ret
      exact ⟨⟨1, rfl, .inr rfl⟩, hb1⟩
    · have hd2 : decide ((150 : Int) < (m : Int)) = false := decide_eq_false (by omega)
      clear hK1
      go_in
      go_wp2_with fail
      go_loopw [17] (fun s17 wx => ∃ (j : Nat), j ≤ m ∧ s17 = .int .i64 j ∧ (∀ (k : Nat) (o : OpP), k < j → os[k]? = some o → o.pdu.length ≤ 300) ∧ Below w.heap.size w wx) (fun s17 _ => m - (intOf s17).toNat)
      case atStart => exact ⟨0, Nat.zero_le _, rfl, fun k o hk => absurd hk (by omega), hb1⟩
      case round =>
        obtain ⟨j, hj, rfl, hno, hbr⟩ := hrel
        have HNO := Lib.hid hno
        clear hno
        by_cases hlt : j < m
        · obtain ⟨o, ho⟩ : ∃ o, os[j]? = some o := ⟨_, List.getElem?_eq_getElem (by rw [HL.out]; exact hlt)⟩
          obtain ⟨g, off, rfl, hg, hc⟩ := (HO.out wr hbr).2.2.2 (by omega)
          obtain ⟨Ap, np, cpp, _, _, _, q3, _, hS⟩ := hc j _ ho
          have HDJ := Lib.hid ho
          have hltI : (j : Int) < (m : Int) := by omega
          have HN := Lib.hid hS.1
          clear hc ho hS
          by_cases h3 : 300 < np
          · have hd3 : decide ((300 : Int) < (np : Int)) = true := decide_eq_true (by omega)
            go_wp2_with fail
            go_ret
            exact ⟨⟨1, rfl, .inr rfl⟩, hbr⟩
          · have hd3 : decide ((300 : Int) < (np : Int)) = false := decide_eq_false (by omega)
            go_wp2_with fail
            go_roundw
            case rel => exact ⟨j + 1, by omega, by go_num, fun k p hk hke => by
              rcases Nat.lt_or_ge k j with h | h
              · exact HNO.out k p h hke
              · obtain rfl : k = j := by omega
                rw [HDJ.out] at hke
                injection hke with hke
                rw [← hke, HN.out]
                omega, hbr⟩
            case measure => simp [intOf]; omega
        · obtain rfl : j = m := by omega
          go_wp2
          go_ret
          exact ⟨⟨0, rfl, .inl ⟨rfl, by omega, by omega, fun o ho => by
            obtain ⟨k, hk, he⟩ := List.mem_iff_getElem.1 ho
            exact HNO.out k o (by rw [← HL.out]; exact hk) (by rw [List.getElem?_eq_getElem hk, he])⟩⟩, hbr⟩
end Go.Proofs.YtcipleanckeoaaaDoor
