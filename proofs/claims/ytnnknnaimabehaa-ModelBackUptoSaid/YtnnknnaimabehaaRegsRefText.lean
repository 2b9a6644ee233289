/- kilowattref02.Text. -/
import Derived.Test.YtnnknnaimabehaaRegsTextPlain
import Derived.Test.YtnnknnaimabehaaRegsLaws
namespace Go.Proofs.Ytnnknnaimabehaa
open Go.RowKit
set_option maxRecDepth 100000

theorem index_str (s : ByteArray) (i : Nat) (hi : i < s.size) (w : World) : (Instr.index 9 (.string s) (.int .i64 i)).run Try.prog w = .ok (.int .u8 (chr s i)) w := by
  rw [run_index_string w _ _ _ _ Try.underlying9, dif_pos (by omega)]
  have e : s.data[i]? = some s[i] := Array.getElem?_eq_getElem hi
  simp [chr, List.getD, e]

/-- What Text answers. -/
def TextPost (s : ByteArray) (many : Int) (w : World) (e : Ending) (w' : World) : Prop :=
  (txtOk s many ∧ ∃ (u : Value) (k : Nat), (k : Int) = many ∧ e = .returned (.tuple #[u, .int .i64 0]) ∧ w'.ownsRow w.heap.size 40 1 u k ((txtL s k s.size).map (.int .u16)) ∧ Below w.heap.size w w') ∨
  (¬ txtOk s many ∧ e = .returned (.tuple #[.slice none 0 0, .int .i64 20]) ∧ Below w.heap.size w w')

theorem reftext_any (s : ByteArray) (many : Int) (w : World) :
    Calls Try.prog 40 #[.string s, .int .i64 many] w fun e w' => TextPost s many w e w' := by
  obtain ⟨i0, hi, hz0, hz1, hz2⟩ := info_parts infoU16
  by_cases h0 : many < 0
  · have hno : ¬ txtOk s many := fun h => by have := h.1; omega
    go_in; go_wp2; go_ret2; exact Or.inr ⟨hno, rfl, Below.refl _ _⟩
  by_cases h1 : 125 < many
  · have hno : ¬ txtOk s many := fun h => by have := h.2.1; omega
    go_in; go_wp2; go_ret2; exact Or.inr ⟨hno, rfl, Below.refl _ _⟩
  obtain ⟨m, rfl⟩ := Int.eq_ofNat_of_zero_le (show 0 ≤ many by omega)
  by_cases h2 : 2 * m < s.size
  · have hno : ¬ txtOk s m := fun h => by have := h.2.2.1; omega
    go_in; go_wp2; go_ret2; exact Or.inr ⟨hno, rfl, Below.refl _ _⟩
  have hm : m ≤ 125 := by omega
  have hsz : s.size ≤ 2 * m := by omega
  clear h0 h1 h2
  go_in
  go_wp2
  go_loopw [6] (fun i wr => ∃ j : Nat, j ≤ s.size ∧ i = .int .i64 j ∧ (∀ k, k < j → chr s k ≠ 0) ∧ wr = w) (fun i _ => s.size - (intOf i).toNat)
  case atStart => exact ⟨0, by omega, rfl, fun k hk => by omega, rfl⟩
  case round =>
    obtain ⟨j, hj, rfl, hnz, rfl⟩ := hrel
    by_cases hlt : j < s.size
    · have hix := index_str s j hlt
      by_cases hz : chr s j = 0
      · have hno : ¬ txtOk s m := fun h => h.2.2.2 j hlt hz
        have HNO := Lib.hid hno
        clear hno hnz
        rw [hz] at hix
        go_wp2
        go_ret2
        exact Or.inr ⟨HNO.out, rfl, Below.refl _ _⟩
      · have k1 : (chr s j == 0) = false := by simpa using hz
        have HNZ := Lib.hid hnz
        have HZ := Lib.hid hz
        clear hnz hz
        go_wp2
        go_roundw
        case rel =>
          refine ⟨j + 1, by omega, by go_num, fun k hk => ?_, by first | rfl | trivial⟩
          rcases Nat.lt_or_ge k j with h | h
          · exact HNZ.out k h
          · rw [show k = j by omega]; exact HZ.out
        case measure => simp [intOf]; omega
    · obtain rfl : j = s.size := by omega
      have hok : txtOk s m := ⟨by omega, by omega, by omega, hnz⟩
      have HOK := Lib.hid hok
      clear hok hnz
      obtain ⟨wo, rfl⟩ : ∃ wo : World, wo = wr := ⟨_, rfl⟩
      go_wp2_with (at_make; refine wpList_make_full _ rfl _ _ 25 rfl wo.heap.size 40 i0 (.int .u16 0) 1 Try.underlying25 hi hz0 hz1 _ _ _ _ m rfl rfl (by omega) (by omega) (by rw [hz2]; omega) (by unfold maxLen; omega) (Nat.le_refl _) ?_; intro w1 hown1 hgrow1)
      have hown1 : w1.ownsRow wo.heap.size 40 1 (.slice (some ⟨wo.heap.size, 0, none⟩) m m) m ((txtL s m 0).map (.int .u16)) := by
        rw [txtL_zero]
        simpa [toList_madeCells_one, Value.cells] using hown1
      go_loopw [8] (fun i wr => ∃ j : Nat, j ≤ s.size ∧ i = .int .i64 j ∧ wr.ownsRow wo.heap.size 40 1 (.slice (some ⟨wo.heap.size, 0, none⟩) m m) m ((txtL s m j).map (.int .u16)) ∧ Below wo.heap.size wo wr) (fun i _ => s.size - (intOf i).toNat)
      case atStart => exact ⟨0, by omega, rfl, hown1, (Below.refl _ _).grown hgrow1 (Nat.le_refl _) (fun k hk => by cases hk)⟩
      case round =>
        obtain ⟨j, hj, rfl, hown, hb⟩ := hrel
        by_cases hlt : j < s.size
        · have hix := index_str s j hlt
          have hjm : j / 2 < m := by omega
          obtain ⟨y, hy, hc, hf⟩ := own_at hown (i := j / 2) (by rw [txtL_len]; exact hjm)
          rw [txtL_get _ _ _ _ hjm] at hy
          injection hy with hy
          have hcin := chr_in s j
          have hfit := addC_fits s j
          have HST := Lib.hid (txtL_step s m j)
          rw [hy] at hfit HST
          have hyin := txtAt_in s j (j / 2)
          rw [hy] at hyin
          have HY := Lib.hid hy
          have hadd : addC s j = if j % 2 = 0 then chr s j * 256 else chr s j := rfl
          generalize hcc : chr s j = c at hix hcin hadd
          clear hy hcc
          by_cases hpar : j % 2 = 0
          · have hp2 : ((j : Int) % 2 == 0) = true := by simp; omega
            rw [if_pos hpar] at hadd
            generalize addC s j = ac at hadd hfit HST
            subst hadd
            go_wp2
            go_roundw
            case rel =>
              refine ⟨j + 1, by omega, by go_num, ?_, hb.setCell (p := ⟨wo.heap.size, j / 2, none⟩) (Nat.le_refl _) _⟩
              rw [← HST.out]
              exact own_set hown (j / 2) _
            case measure => simp [intOf]; omega
          · have hp2 : ((j : Int) % 2 == 0) = false := by simp; omega
            rw [if_neg hpar] at hadd
            generalize addC s j = ac at hadd hfit HST
            subst hadd
            go_wp2
            go_roundw
            case rel =>
              refine ⟨j + 1, by omega, by go_num, ?_, hb.setCell (p := ⟨wo.heap.size, j / 2, none⟩) (Nat.le_refl _) _⟩
              rw [← HST.out]
              exact own_set hown (j / 2) _
            case measure => simp [intOf]; omega
        · obtain rfl : j = s.size := by omega
          go_wp2
          go_ret2
          exact Or.inl ⟨HOK.out, _, m, rfl, rfl, hown, hb⟩
end Go.Proofs.Ytnnknnaimabehaa
