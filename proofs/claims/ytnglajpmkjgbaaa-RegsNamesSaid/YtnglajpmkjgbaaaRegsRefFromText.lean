/- kilowattref02.FromText. -/
import Derived.Test.YtnglajpmkjgbaaaRegsRefText
import Derived.Laws.BytesArg
namespace Go.Proofs.Ytnglajpmkjgbaaa
open Go.RowKit

def strU (l : List Int) : ByteArray := ⟨(l.map fun x => UInt8.ofNat x.toNat).toArray⟩
theorem strU_size (l : List Int) : (strU l).size = l.length := by simp [strU, ByteArray.size]
theorem strU_append (l m : List Int) : strU l ++ strU m = strU (l ++ m) := by
  apply ByteArray.ext
  simp [strU]
theorem one_conv (y : Int) (wr : World) : (convert 44 9 (.slice (some ⟨wr.heap.size, 0, none⟩) 1 1)).run Try.prog (wr.alloc (.cells #[.int .u8 y] 5)) = .ok (.string (strU [y])) (wr.alloc (.cells #[.int .u8 y] 5)) :=
  run_convert_bytes_arg (P := Try.prog) _ 44 5 Try.underlying44 Try.underlying5 wr.heap.size 0 1 1 [y] rfl (fun i hi => by
    obtain rfl : i = 0 := by omega
    rw [Nat.zero_add, cell_of_row _ wr.heap.size 0 _ _ _ (heap_alloc_new wr _)]; rfl) 9 Try.underlying9

/-- The i-th byte of registers. -/
def rbyte (xs : List Int) (i : Nat) : Int := if i % 2 = 0 then xs.getD (i / 2) 0 / 256 else xs.getD (i / 2) 0 % 256
def rbytes (xs : List Int) (k : Nat) : List Int := (List.range k).map (rbyte xs)
theorem rbytes_succ (xs : List Int) (k : Nat) : rbytes xs (k + 1) = rbytes xs k ++ [rbyte xs k] := by simp [rbytes, List.range_succ]
/-- What FromText answers: the bytes ahead of the first nought. -/
def FromPost (xs : List Int) (w : World) (e : Ending) (w' : World) : Prop :=
  (∃ k, k ≤ 2 * xs.length ∧ (∀ i, i < k → rbyte xs i ≠ 0) ∧ (k = 2 * xs.length ∨ rbyte xs k = 0) ∧ e = .returned (.string (strU (rbytes xs k)))) ∧ Below w.heap.size w w'

theorem reffrom_any (A : Option Addr) (c : Nat) (xs : List Int) (hl : xs.length ≤ 1000) (hx : ∀ x ∈ xs, 0 ≤ x ∧ x < 65536) (w : World) (hR : RdI w w.heap.size .u16 A xs) :
    Calls Try.prog 25 #[.slice A xs.length c] w fun e w' => FromPost xs w e w' := by
  have HR := Lib.hid hR
  have HX := Lib.hid hx
  clear hR hx
  obtain ⟨len, hlen⟩ : ∃ len, len = xs.length := ⟨_, rfl⟩
  rw [← hlen] at hl ⊢
  have HLN := Lib.hid hlen
  clear hlen
  go_in
  go_wp2
  go_loopw [3, 4] (fun u i wr => ∃ j : Nat, j ≤ 2 * len ∧ i = .int .i64 j ∧ u = .string (strU (rbytes xs j)) ∧ (∀ k, k < j → rbyte xs k ≠ 0) ∧ Below w.heap.size w wr) (fun _ i _ => 2 * len - (intOf i).toNat)
  case atStart => exact ⟨0, by omega, rfl, rfl, fun k hk => by omega, Below.refl _ _⟩
  case round =>
    obtain ⟨j, hj, rfl, rfl, hnz, hb⟩ := hrel
    have HNZ := Lib.hid hnz
    clear hnz
    by_cases hlt : j < 2 * len
    · obtain ⟨g, off, x, rfl, _, hx0, hc⟩ := (HR.out.below hb).at_ (i := j / 2) (by have := HLN.out; omega)
      obtain ⟨b1, b2⟩ := HX.out x (List.mem_of_getElem? hx0)
      have hby : rbyte xs j = if j % 2 = 0 then x / 256 else x % 256 := by simp [rbyte, List.getD, hx0]
      have HS := Lib.hid (rbytes_succ xs j)
      have hs1 : (strU (rbytes xs j)).size = j := by rw [strU_size]; simp [rbytes]
      generalize hpre : strU (rbytes xs j) = pre at hs1 ⊢
      have HP := Lib.hid hpre
      clear hpre
      by_cases hpar : j % 2 = 0
      · have hp2 : ((j : Int) % 2 == 1) = false := by simp; omega
        rw [if_pos hpar] at hby
        have e1 : IntKind.u16.wrap (x.tdiv 256) = x / 256 := by rw [Int.tdiv_eq_ediv_of_nonneg b1]; exact IntWalk.u16_in _ (by omega)
        have e2 : x / 256 % 256 = x / 256 := by omega
        have HB := Lib.hid hby
        have hcv := one_conv (x / 256) wr
        have hs2 : (strU [x / 256]).size = 1 := strU_size _
        clear hby hx0
        by_cases hz : x / 256 = 0
        · have hz2 : (x / 256 == 0) = true := by simpa using hz
          have HZ := Lib.hid hz
          clear hz
          go_wp2
          go_ret
          exact ⟨⟨j, by have := HLN.out; omega, HNZ.out, Or.inr (by rw [HB.out]; exact HZ.out), congrArg (fun z => Ending.returned (.string z)) HP.out.symm⟩, hb⟩
        · have hz2 : (x / 256 == 0) = false := by simpa using hz
          have HZ := Lib.hid hz
          clear hz
          go_wp2
          go_roundw
          case rel =>
            refine ⟨j + 1, by omega, by go_num, ?_, fun k hk => ?_, hb.alloc hb.size _⟩
            · rw [HS.out, ← strU_append, HP.out, HB.out]
            · rcases Nat.lt_or_ge k j with h | h
              · exact HNZ.out k h
              · rw [show k = j by omega, HB.out]; exact HZ.out
          case measure => simp [intOf]; omega
      · have hp2 : ((j : Int) % 2 == 1) = true := by simp; omega
        rw [if_neg hpar] at hby
        have e1 : x.tmod 256 = x % 256 := Int.tmod_eq_emod_of_nonneg b1
        have e2 : x % 256 % 256 = x % 256 := by omega
        have HB := Lib.hid hby
        have hcv := one_conv (x % 256) wr
        have hs2 : (strU [x % 256]).size = 1 := strU_size _
        clear hby hx0
        by_cases hz : x % 256 = 0
        · have hz2 : (x % 256 == 0) = true := by simpa using hz
          have HZ := Lib.hid hz
          clear hz
          go_wp2
          go_ret
          exact ⟨⟨j, by have := HLN.out; omega, HNZ.out, Or.inr (by rw [HB.out]; exact HZ.out), congrArg (fun z => Ending.returned (.string z)) HP.out.symm⟩, hb⟩
        · have hz2 : (x % 256 == 0) = false := by simpa using hz
          have HZ := Lib.hid hz
          clear hz
          go_wp2
          go_roundw
          case rel =>
            refine ⟨j + 1, by omega, by go_num, ?_, fun k hk => ?_, hb.alloc hb.size _⟩
            · rw [HS.out, ← strU_append, HP.out, HB.out]
            · rcases Nat.lt_or_ge k j with h | h
              · exact HNZ.out k h
              · rw [show k = j by omega, HB.out]; exact HZ.out
          case measure => simp [intOf]; omega
    · obtain rfl : j = 2 * len := by omega
      go_wp2
      go_ret
      exact ⟨⟨2 * len, by have := HLN.out; omega, HNZ.out, Or.inl (by have := HLN.out; omega), rfl⟩, hb⟩
end Go.Proofs.Ytnglajpmkjgbaaa
