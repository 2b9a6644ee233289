/- The examples of the chapter. -/
import Derived.Test.YtjkhkgdijnhdmaaDoorShaOf
import Derived.Test.YtjkhkgdijnhdmaaDoorShaParse
import Derived.Lib.ConvBytes
import Derived.Laws.AppendOwn
namespace Go.Proofs.YtjkhkgdijnhdmaaDoor
open Go.RowKit

/-- A string's bytes, as numbers. -/
def strN (s : ByteArray) : List Nat := s.data.toList.map fun b => b.toNat
theorem strN_len (s : ByteArray) : (strN s).length = s.size := by simp [strN]
theorem strN_in (s : ByteArray) : ∀ x ∈ strN s, x < 256 := by
  intro x hx
  simp only [strN, List.mem_map] at hx
  obtain ⟨b, _, rfl⟩ := hx
  exact b.toNat_lt
theorem bytesWorld_below (w : World) (e : TypeId) (s : ByteArray) : Below w.heap.size w (Lib.bytesWorld w e s) :=
  ⟨by simp [Lib.bytesWorld, World.freeze]; rfl, by simp [Lib.bytesWorld, World.freeze], by simp [Lib.bytesWorld, World.freeze]; rfl, by rw [Lib.bytesWorld_size]; omega, fun k hk => Lib.bytesWorld_at_old w e s k hk⟩
theorem str_sl (w : World) (e : TypeId) (s : ByteArray) (h : s.size ≤ 1000000) : SlI (Lib.bytesWorld w e s) (Lib.bytesWorld w e s).heap.size .u8 (some ⟨w.heap.size, 0, none⟩) (strN s).length (grownCap w s.size 0 e) (nI (strN s)) := by
  refine ⟨by rw [nI_len], by rw [strN_len]; exact grownCap_ge _ _ _ _, grownCap_le_maxLen w _ 0 e (by unfold maxLen; omega), (fun e => by cases e), fun hn => ?_⟩
  refine ⟨_, 0, rfl, by rw [Lib.bytesWorld_size]; omega, fun i x hx => ?_⟩
  have hi : i < s.size := by have := (List.getElem?_eq_some_iff.1 hx).1; rw [nI_len, strN_len] at this; exact this
  rw [Nat.zero_add, Lib.bytesWorld_cell w e s i hi]
  rw [nI_at, strN, List.getElem?_map] at hx
  have hi' : i < s.data.toList.length := by rw [Array.length_toList]; exact hi
  rw [List.getElem?_eq_getElem hi'] at hx
  rw [List.getD, List.getElem?_eq_getElem hi']
  simp at hx
  simp [← hx]
/-- A hash's text. -/
def textN (l : List Nat) : ByteArray := ⟨(bytesOf (hexL (nI l))).toArray⟩

set_option maxHeartbeats 1000000 in
theorem hashed_own (s t : ByteArray) (w : World) (hs : s.size ≤ 1000) (ht : textN (Sh.digest (strN s)) = t) (hT : Tab w 0 .u32 firstI) (hT2 : Tab w 1 .u32 kI) :
    Calls Tryd.prog 26 #[.string s, .string t] w fun e w' => e = .returned (.bool true) ∧ Below w.heap.size w w' := by
  have hb1 := bytesWorld_below w 5 s
  have ho := of_own (some ⟨w.heap.size, 0, none⟩) (grownCap w s.size 0 5) (strN s) (Lib.bytesWorld w 5 s) (hT.up hb1) (hT2.up hb1) (str_sl w 5 s (by omega)) (strN_in s) (by rw [strN_len]; omega)
  rw [strN_len] at ho
  have HO := Lib.hid ho
  clear ho
  have hdl := Sh.digest_len (strN s)
  have hdi := Sh.digest_in (strN s)
  generalize Sh.digest (strN s) = D at ht HO hdl hdi
  have HX := Lib.hid (fun (W : World) => text_any (nI D) (by rw [nI_len]; exact hdl) (fun x hx => by
    simp only [nI, List.mem_map] at hx
    obtain ⟨y, hy, rfl⟩ := hx
    have := hdi y hy
    omega) W)
  have HT := Lib.hid ht
  clear hT hT2 ht hdl hdi
  go_in
  go_wp2_with fail
  rw [Lib.run_convert_string_bytes w _ _ 5 s Tryd.underlying9 Tryd.underlying27 Tryd.underlying5]
  simp only [Result.andThen]
  rw [Oper.upon_value]
  generalize Lib.bytesWorld w 5 s = w1 at HO hb1 ⊢
  go_wp2_with fail
  refine HO.out.mono ?_
  rintro e w2 ⟨rfl, hb2⟩
  have hb3 := below_step hb1 hb2
  go_wp2_with fail
  refine (HX.out _).mono ?_
  rintro e w3 ⟨rfl, hb4⟩
  have hb5 := below_step hb3 hb4
  have e1 : (⟨(bytesOf (hexL (nI D))).toArray⟩ : ByteArray) = t := HT.out
  rw [e1]
  go_wp2
  go_ret
  exact ⟨retb (by simp), hb5⟩

theorem ex_none : textN (Sh.digest (strN ⟨#[]⟩)) = ⟨#[101, 51, 98, 48, 99, 52, 52, 50, 57, 56, 102, 99, 49, 99, 49, 52, 57, 97, 102, 98, 102, 52, 99, 56, 57, 57, 54, 102, 98, 57, 50, 52, 50, 55, 97, 101, 52, 49, 101, 52, 54, 52, 57, 98, 57, 51, 52, 99, 97, 52, 57, 53, 57, 57, 49, 98, 55, 56, 53, 50, 98, 56, 53, 53]⟩ := by decide +kernel
theorem ex_abc : textN (Sh.digest (strN ⟨#[97, 98, 99]⟩)) = ⟨#[98, 97, 55, 56, 49, 54, 98, 102, 56, 102, 48, 49, 99, 102, 101, 97, 52, 49, 52, 49, 52, 48, 100, 101, 53, 100, 97, 101, 50, 50, 50, 51, 98, 48, 48, 51, 54, 49, 97, 51, 57, 54, 49, 55, 55, 97, 57, 99, 98, 52, 49, 48, 102, 102, 54, 49, 102, 50, 48, 48, 49, 53, 97, 100]⟩ := by decide +kernel
set_option maxHeartbeats 2000000 in
theorem alive_own (w : World) (hT : Tab w 0 .u32 firstI) (hT2 : Tab w 1 .u32 kI) :
    Calls Tryd.prog 20 #[] w fun e w' => e = .returned (.bool true) ∧ Below w.heap.size w w' := by
  have H1 := Lib.hid (hashed_own _ _ w (by decide) ex_none hT hT2)
  have H2 := Lib.hid (fun (W : World) (hb : Below w.heap.size w W) => hashed_own _ _ W (by decide) ex_abc (hT.up hb) (hT2.up hb))
  clear hT hT2
  go_in
  go_wp2_with fail
  refine H1.out.mono ?_
  rintro e w1 ⟨rfl, hb1⟩
  go_wp2_with fail
  refine (H2.out w1 hb1).mono ?_
  rintro e w2 ⟨rfl, hb2⟩
  go_wp2
  go_ret
  exact ⟨rfl, below_step hb1 hb2⟩
end Go.Proofs.YtjkhkgdijnhdmaaDoor
