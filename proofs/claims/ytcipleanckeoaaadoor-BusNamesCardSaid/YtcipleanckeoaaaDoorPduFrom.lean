/- Bytes as a string. -/
import Derived.Test.YtcipleanckeoaaaDoorPduBytes
import Derived.Test.YtcipleanckeoaaaDoorPduBase
namespace Go.Proofs.YtcipleanckeoaaaDoor
open Go.RowKit

theorem conv_sli {W : World} {A : Option Addr} {n c : Nat} {L : List Int} (h : SlI W W.heap.size .u8 A n c L) : (convert 22 9 (.slice A n c)).run Tryd.prog W = .ok (.string (strOfNums L)) W := by
  by_cases h0 : n = 0
  · subst h0
    obtain rfl : L = [] := List.length_eq_zero_iff.1 h.1
    rw [run_convert_bytes_string W 22 9 5 _ 0 c Tryd.underlying22 Tryd.underlying5 Tryd.underlying9]
    cases A <;> simp [Conv.bytesToString, loadCells] <;> rfl
  · obtain ⟨g, off, rfl, _, hc⟩ := h.2.2.2.2 (by rw [h.1]; omega)
    exact run_convert_bytes_arg (P := Tryd.prog) W 22 5 Tryd.underlying22 Tryd.underlying5 g off n c L h.1 (fun i hi => by
      have h1 : L[i]? = some (L[i]'(by rw [h.1]; exact hi)) := List.getElem?_eq_getElem _
      rw [hc i _ h1, List.getD, h1]; rfl) 9 Tryd.underlying9
/-- Two texts of bytes are the same just if the bytes are. -/
theorem str_eq (a b : List Int) (ha : Byte8 a) (hb : Byte8 b) : ((strOfNums a).toList == (strOfNums b).toList) = decide (a = b) := by
  have hinj : ∀ (a b : List Int), Byte8 a → Byte8 b → (a.map fun n => UInt8.ofNat n.toNat) = (b.map fun n => UInt8.ofNat n.toNat) → a = b := by
    intro a
    induction a with
    | nil => intro b _ _ h; cases b with
      | nil => rfl
      | cons _ _ => cases h
    | cons x t ih =>
      intro b ha hb h
      cases b with
      | nil => cases h
      | cons y u =>
        obtain ⟨hx, ht⟩ := ha.cons
        obtain ⟨hy, hu⟩ := hb.cons
        simp only [List.map_cons, List.cons.injEq] at h
        have h1 := congrArg UInt8.toNat h.1
        simp only [UInt8.toNat_ofNat'] at h1
        rw [ih u ht hu h.2]
        congr 1
        omega
  rw [Bool.eq_iff_iff, beq_iff_eq, decide_eq_true_eq, ByteArray.toList_eq, ByteArray.toList_eq, strOfNums_data, strOfNums_data]
  exact ⟨fun h => hinj a b ha hb h, fun h => by rw [h]⟩
end Go.Proofs.YtcipleanckeoaaaDoor
namespace Go.Proofs.YtcipleanckeoaaaDoor
open Go.RowKit

/-- What the program tries; q: the function's number with the eighth bit; u: the bits. -/
def ownR (q : Int) (u : List Bool) (a : AskP) (b : List Int) : RepP :=
  if b.getD 0 0 = q then ⟨a.fn, b.getD 1 0, [], []⟩
  else if a.fn ≤ 2 then ⟨a.fn, 0, u, []⟩
  else if a.fn ≤ 4 ∨ a.fn = 23 then ⟨a.fn, 0, [], if b.length % 2 = 0 then wordsP (b.drop 2) else []⟩
  else ⟨a.fn, 0, [], []⟩
/-- What the document tries. -/
def refR (a : AskP) (b : List Int) : RepP :=
  if 128 ≤ b.getD 0 0 then ⟨a.fn, b.getD 1 0, [], []⟩
  else ⟨a.fn, 0, if a.fn < 3 then unpackP (b.drop 2) a.count.toNat else [], if a.fn = 3 ∨ a.fn = 4 ∨ a.fn = 23 then wordsP (b.drop 2) else []⟩
theorem ownR_guess (q : Int) (u : List Bool) (a : AskP) (b : List Int) (hq : q = a.fn + 128) (hu : u = unpackP (b.drop 2) a.count.toNat) : ownR q u a b = guessR a b := by
  subst hq hu
  rfl
theorem answer_no (a : AskP) (r : RepP) (h : mayP a = false) : answerP a r = none := by unfold answerP; rw [if_pos (.inl h)]
theorem readAnswer_no (a : AskP) (b : List Int) (h : mayP a = false) : readAnswerP a b = none := by
  unfold readAnswerP
  split
  · rfl
  · rw [answer_no a _ h]; rfl
/-- The head of a reply's bytes tells whether it is an exception. -/
theorem answer_head (a : AskP) (r : RepP) (x : List Int) (h : answerP a r = some x) : (r.code = 0 → x.getD 0 0 = a.fn ∧ a.fn < 128) ∧ (r.code ≠ 0 → x.getD 0 0 = a.fn + 128) ∧ (r.code = 0 → (a.fn = 3 ∨ a.fn = 4 ∨ a.fn = 23) → x.length % 2 = 0) := by
  unfold answerP at h
  by_cases e0 : mayP a = false ∨ r.fn ≠ a.fn
  · rw [if_pos e0] at h; cases h
  rw [if_neg e0] at h
  have hm : mayP a = true := by
    cases hh : mayP a
    · exact absurd (.inl hh) e0
    · rfl
  have hrb := read_bytes a hm
  by_cases e1 : r.code ≠ 0
  · rw [if_pos e1] at h
    split at h
    · cases h
    · injection h with h
      subst h
      exact ⟨fun h => absurd h e1, fun _ => rfl, fun h => absurd h e1⟩
  rw [if_neg e1] at h
  split at h
  · cases h
  have e1' : r.code = 0 := by omega
  split at h
  · injection h with h
    subst h
    exact ⟨fun _ => ⟨rfl, by omega⟩, fun h => absurd e1' h, fun _ _ => by omega⟩
  split at h
  · injection h with h
    subst h
    exact ⟨fun _ => ⟨hrb.2.2.2.1, by omega⟩, fun h => absurd e1' h, fun _ _ => by omega⟩
  split at h
  · injection h with h
    subst h
    exact ⟨fun _ => ⟨rfl, by omega⟩, fun h => absurd e1' h, fun _ _ => by omega⟩
  injection h with h
  subst h
  refine ⟨fun _ => ⟨rfl, by omega⟩, fun h => absurd e1' h, fun _ _ => ?_⟩
  simp only [List.length_cons, twosI_len]
  omega
theorem refR_guess (a : AskP) (b : List Int) (hm : mayP a = true) (hl : 2 ≤ b.length) : (if answerP a (refR a b) = some b then some (refR a b) else none) = readAnswerP a b := by
  have f23 := (read_bytes a hm).2.2.2.2
  unfold readAnswerP
  rw [if_neg (show ¬ b.length < 2 by omega)]
  by_cases h0 : 128 ≤ b.getD 0 0
  · by_cases h1 : b.getD 0 0 = a.fn + 128
    · have e : refR a b = guessR a b := by
        unfold refR guessR
        rw [if_pos h0, if_pos h1]
      rw [e]
    · have n1 : answerP a (refR a b) ≠ some b := by
        intro h
        obtain ⟨k1, k2, _⟩ := answer_head a _ b h
        by_cases hc : (refR a b).code = 0
        · have := k1 hc; omega
        · exact h1 (k2 hc)
      have n2 : answerP a (guessR a b) ≠ some b := by
        intro h
        obtain ⟨k1, k2, _⟩ := answer_head a _ b h
        by_cases hc : (guessR a b).code = 0
        · have := k1 hc; omega
        · exact h1 (k2 hc)
      rw [if_neg n1, if_neg n2]
  · have h1 : ¬ b.getD 0 0 = a.fn + 128 := by omega
    by_cases ho : b.length % 2 = 0 ∨ ¬ (a.fn = 3 ∨ a.fn = 4 ∨ a.fn = 23)
    · have e : refR a b = guessR a b := by
        unfold refR guessR
        rw [if_neg h0, if_neg h1]
        by_cases c1 : a.fn ≤ 2
        · rw [if_pos c1, if_pos (by omega), if_neg (by omega)]
        · rw [if_neg c1, if_neg (by omega)]
          by_cases c2 : a.fn ≤ 4 ∨ a.fn = 23
          · rw [if_pos c2, if_pos (by omega), if_pos (by omega)]
          · rw [if_neg c2, if_neg (by omega)]
      rw [e]
    · have hodd : b.length % 2 ≠ 0 := fun h => ho (.inl h)
      have hfn : a.fn = 3 ∨ a.fn = 4 ∨ a.fn = 23 := Decidable.byContradiction fun h => ho (.inr h)
      have no (r : RepP) (hc : r.code = 0) : answerP a r ≠ some b := by
        intro h
        exact hodd ((answer_head a r b h).2.2 hc hfn)
      have c1 : (refR a b).code = 0 := by unfold refR; rw [if_neg h0]
      have c2 : (guessR a b).code = 0 := by
        unfold guessR
        rw [if_neg h1]
        split
        · rfl
        · split <;> rfl
      rw [if_neg (no _ c1), if_neg (no _ c2)]
theorem wordsP_reg {l : List Int} (hl : Byte8 l) : Reg16 (wordsP l) := by
  intro x hx
  unfold wordsP at hx
  obtain ⟨k, hk, rfl⟩ := List.mem_map.1 hx
  rw [List.mem_range] at hk
  have a1 := hl _ (List.getElem_mem (show 2 * k < l.length by omega))
  have a2 := hl _ (List.getElem_mem (show 2 * k + 1 < l.length by omega))
  have b1 : l.getD (2 * k) 0 = l[2 * k]'(by omega) := by simp [List.getD, show 2 * k < l.length by omega]
  have b2 : l.getD (2 * k + 1) 0 = l[2 * k + 1]'(by omega) := by simp [List.getD, show 2 * k + 1 < l.length by omega]
  unfold wordP
  rw [b1, b2]
  omega
end Go.Proofs.YtcipleanckeoaaaDoor
namespace Go.Proofs.YtcipleanckeoaaaDoor
open Go.RowKit

theorem wordsK_P (xs : List Int) (m : Nat) (h : xs.length = 2 * m) : wordsK xs (List.finRange m) = wordsP xs := by
  apply List.ext_getElem
  · simp [wordsK, wordsP, h]
  · intro i h1 h2
    simp [wordsK, wordsP, wordK, wordP]
/-- The registers that bytes are. -/
def fromP (xs : List Int) : List Int := if xs.length % 2 = 0 then wordsP xs else []
set_option maxHeartbeats 1000000 in
theorem from_any (A : Option Addr) (n c : Nat) (xs : List Int) (hn : n ≤ 1000000) (w : World) (h : SlI w w.heap.size .u8 A n c xs) (hx : Byte8 xs) :
    Calls Tryd.prog 69 #[.slice A n c] w fun e w' => ∃ A' n' c' q, e = .returned (.tuple #[.slice A' n' c', .int .i64 q]) ∧ SlI w' w'.heap.size .u16 A' n' c' (fromP xs) ∧ Below w.heap.size w w' := by
  by_cases he : n % 2 = 0
  · obtain ⟨m, rfl⟩ : ∃ m, n = 2 * m := ⟨n / 2, by omega⟩
    refine ((callsIn_wide (n := 5)).1 (frombytes_in A (2 * m) c m xs hn rfl h.2.1 h.1 hx w h.2.2.2.2)).mono ?_
    rintro e w' ⟨v, rfl, ho, hb⟩
    obtain ⟨A', c', rfl, hs⟩ := SlI.of_own ho
    refine ⟨A', m, c', 0, rfl, ?_, hb⟩
    unfold fromP
    rw [if_pos (by rw [h.1]; exact he), ← wordsK_P xs m h.1]
    exact hs
  · have h1 : ((n : Int).tmod 2 != 0) = true := by rw [Int.tmod_eq_emod_of_nonneg (by omega)]; simp; omega
    have h2 : ((n : Int) % 2 != 0) = true := by simp; omega
    have HE : Hid (fromP xs = []) := Lib.hid (by unfold fromP; rw [if_neg (by rw [h.1]; exact he)])
    clear h hx he
    go_in
    go_wp2
    go_ret2
    exact ⟨none, 0, 0, _, rfl, by rw [HE.out]; exact SlI.nil _ _ _, Below.refl _ _⟩
set_option maxHeartbeats 1000000 in
theorem equal_bytes (A B : Option Addr) (n c m d : Nat) (xs ys : List Int) (w : World) (h1 : SlI w w.heap.size .u8 A n c xs) (h2 : SlI w w.heap.size .u8 B m d ys) (b1 : Byte8 xs) (b2 : Byte8 ys) :
    Calls Tryd.prog 71 #[.slice A n c, .slice B m d] w fun e w' => e = .returned (.bool (decide (xs = ys))) ∧ w = w' := by
  have k1 := conv_sli h1
  have k2 := conv_sli h2
  have hs := str_eq xs ys b1 b2
  obtain ⟨S1, hS1⟩ : ∃ S, strOfNums xs = S := ⟨_, rfl⟩
  obtain ⟨S2, hS2⟩ : ∃ S, strOfNums ys = S := ⟨_, rfl⟩
  obtain ⟨q, hq⟩ : ∃ q, decide (xs = ys) = q := ⟨_, rfl⟩
  rw [hS1] at k1
  rw [hS2] at k2
  rw [hS1, hS2, hq] at hs
  rw [hq]
  clear h1 h2 b1 b2 hS1 hS2 hq
  go_in
  go_wp2
  go_ret
  exact ⟨rfl, rfl⟩
end Go.Proofs.YtcipleanckeoaaaDoor
