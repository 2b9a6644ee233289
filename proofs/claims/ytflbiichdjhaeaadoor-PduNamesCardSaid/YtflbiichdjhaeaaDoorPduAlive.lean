/- The chapter's first examples: kilowattlaw19.three, alive; bytes as a string. -/
import Derived.Test.YtflbiichdjhaeaaDoorPduAnswer
namespace Go.Proofs.YtflbiichdjhaeaaDoor
open Go.RowKit

theorem conv_sli {W : World} {A : Option Addr} {n c : Nat} {L : List Int} (h : SlI W W.heap.size .u8 A n c L) : (convert 28 9 (.slice A n c)).run Tryd.prog W = .ok (.string (strOfNums L)) W := by
  by_cases h0 : n = 0
  · subst h0
    obtain rfl : L = [] := List.length_eq_zero_iff.1 h.1
    rw [run_convert_bytes_string W 28 9 5 _ 0 c Tryd.underlying28 Tryd.underlying5 Tryd.underlying9]
    cases A <;> simp [Conv.bytesToString, loadCells] <;> rfl
  · obtain ⟨g, off, rfl, _, hc⟩ := h.2.2.2.2 (by rw [h.1]; omega)
    exact run_convert_bytes_arg (P := Tryd.prog) W 28 5 Tryd.underlying28 Tryd.underlying5 g off n c L h.1 (fun i hi => by
      have h1 : L[i]? = some (L[i]'(by rw [h.1]; exact hi)) := List.getElem?_eq_getElem _
      rw [hc i _ h1, List.getD, h1]; rfl) 9 Tryd.underlying9
/-- Two texts of bytes are the same just if the bytes are. -/
theorem str_eq (a b : List Int) (ha : Byte8 a) (hb : Byte8 b) : ((strOfNums a).toList == (strOfNums b).toList) = decide (a = b) := by
  have hinj : ∀ (a b : List Int), Byte8 a → Byte8 b → (a.map fun n => UInt8.ofNat n.toNat) = (b.map fun n => UInt8.ofNat n.toNat) → a = b := by
    intro a
    induction a with
    | nil => intro b _ _ h; cases b with
      | nil => rfl
      | cons _ _ => cases h
    | cons x t ih =>
      intro b ha hb h
      cases b with
      | nil => cases h
      | cons y u =>
        obtain ⟨hx, ht⟩ := ha.cons
        obtain ⟨hy, hu⟩ := hb.cons
        simp only [List.map_cons, List.cons.injEq] at h
        have h1 := congrArg UInt8.toNat h.1
        simp only [UInt8.toNat_ofNat'] at h1
        rw [ih u ht hu h.2]
        congr 1
        omega
  rw [Bool.eq_iff_iff, beq_iff_eq, decide_eq_true_eq, ByteArray.toList_eq, ByteArray.toList_eq, strOfNums_data, strOfNums_data]
  exact ⟨fun h => hinj a b ha hb h, fun h => by rw [h]⟩
set_option maxHeartbeats 1000000 in
theorem three_own (w : World) : Calls Tryd.prog 25 #[] w fun e w' => e = .returned (.agg #[.int .i64 3, .int .i64 107, .int .i64 3, .int .i64 0, .slice none 0 0, .slice none 0 0]) ∧ Below w.heap.size w w' := by
  go_in
  go_wp2
  exact bodyPost_ret (v := .agg #[.int .i64 3, .int .i64 107, .int .i64 3, .int .i64 0, .slice none 0 0, .slice none 0 0]) (by simp [results, Tryd.results25, go_sem]) rfl ⟨rfl, (Below.refl _ _).alloc (Nat.le_refl _) _⟩
def threeP : AskP := ⟨3, 107, 3, 0, [], []⟩
theorem three_at (w : World) : AskAt w (.agg #[.int .i64 3, .int .i64 107, .int .i64 3, .int .i64 0, .slice none 0 0, .slice none 0 0]) threeP := ⟨none, 0, 0, none, 0, 0, rfl, SlB.nil _ _, SlI.nil _ _ _⟩
theorem reg_nil : Reg16 [] := fun x hx => by simp at hx
set_option maxHeartbeats 1000000 in
theorem alive_own (w : World) (hT : LimT w) : Calls Tryd.prog 9 #[] w fun e w' => e = .returned (.bool true) ∧ Below w.heap.size w w' := by
  have HT := Lib.hid (fun (X : World) (h : Below w.heap.size w X) => hT.up h)
  clear hT
  go_in
  go_wp2_with fail
  refine (three_own w).mono ?_
  rintro e w1 ⟨rfl, hb1⟩
  have hz1 := hb1.size
  have HB := Lib.hid (bytes_own _ threeP w1 (HT.out w1 hb1) (three_at w1) reg_nil)
  go_wp2_with fail
  refine HB.out.mono ?_
  rintro e w2 ⟨A2, n2, c2, rfl, s2, hb2⟩
  have hm : mayP threeP = true := by decide
  rw [hm]
  have he : errV true = 0 := rfl
  have hb2w := hb1.trans (hb2.mono (by omega))
  have hz2 := hb2w.size
  clear hm
  go_wp2_with fail
  refine (three_own w2).mono ?_
  rintro e w3 ⟨rfl, hb3⟩
  have hb3w := hb2w.trans (hb3.mono (by omega))
  have hz3 := hb3w.size
  obtain ⟨w4, hw4⟩ : ∃ w4, w3.alloc (.cells #[.int .u16 555, .int .u16 0, .int .u16 100] 54) = w4 := ⟨_, rfl⟩
  have hb4 : Below w3.heap.size w3 w4 := by rw [← hw4]; exact (Below.refl _ w3).alloc (Nat.le_refl _) _
  have s4 : SlI w4 w4.heap.size .u16 (some ⟨w3.heap.size, 0, none⟩) 3 3 [555, 0, 100] := by rw [← hw4]; exact SlI.of_lit rfl rfl (by omega)
  have hb4w := hb3w.trans (hb4.mono (by omega))
  have hz4 := hb4w.size
  have HA := Lib.hid (answer_own _ (.agg #[.int .i64 3, .int .i64 0, .slice none 0 0, .slice (some ⟨w3.heap.size, 0, none⟩) 3 3]) threeP ⟨3, 0, [], [555, 0, 100]⟩ w4 (HT.out w4 hb4w) (three_at w4) ⟨none, 0, 0, _, _, _, rfl, SlB.nil _ _, s4⟩ reg_nil (fun x hx => by simp at hx; omega) (by simp) (by simp))
  clear s4
  go_wp2_with fail
  refine HA.out.mono ?_
  rintro e w5 ⟨A5, n5, c5, rfl, s5, hb5⟩
  have ha : answerP threeP ⟨3, 0, [], [555, 0, 100]⟩ = some [3, 6, 2, 43, 0, 0, 0, 100] := by decide
  rw [ha] at s5 ⊢
  have hb5w := hb4w.trans (hb5.mono (by omega))
  have k2 := conv_sli (((s2.up hb3).up hb4).up hb5)
  have k5 := conv_sli s5
  rw [show strOfNums (askL threeP) = ⟨#[3, 0, 107, 0, 3]⟩ by decide] at k2
  rw [show strOfNums ((some [3, 6, 2, 43, 0, 0, 0, 100] : Option (List Int)).getD []) = ⟨#[3, 6, 2, 43, 0, 0, 0, 100]⟩ by decide] at k5
  have hs : (some [3, 6, 2, 43, 0, 0, 0, 100] : Option (List Int)).isSome = true := rfl
  rw [hs]
  clear ha hs s5 s2
  go_wp2_with fail
  go_ret
  exact ⟨rfl, hb5w⟩
end Go.Proofs.YtflbiichdjhaeaaDoor
