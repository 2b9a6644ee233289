/- A hash's text, read back; what is read from any text has just that one. -/
import Derived.Test.YtjkhkgdijnhdmaaDoorShaAlive
import Derived.Test.YtjkhkgdijnhdmaaDoorOrders
import Derived.Stop.BytesEq
import Derived.Deep.WholeRow
namespace Go.Proofs.YtjkhkgdijnhdmaaDoor
open Go.RowKit

def valS (s : ByteArray) (i : Nat) : Int := val (chr s i)
theorem valS_in (s : ByteArray) (i : Nat) : 0 ≤ valS s i ∧ valS s i < 16 := valTo_in _ 16 (Nat.le_refl _)
theorem refL_in (s : ByteArray) (i : Nat) : ∀ x ∈ refL (valS s) i, 0 ≤ x ∧ x < 256 := by
  intro x hx
  simp only [refL, List.mem_map] at hx
  obtain ⟨k, _, rfl⟩ := hx
  exact refAt_in _ _ _ (valS_in s)

theorem hexL_pair (v : Nat → Int) (hv : ∀ i, 0 ≤ v i ∧ v i < 16) (m : Nat) : hexL (pairL v m) = (List.range (2 * m)).map fun i => nib (v i) := by
  induction m with
  | zero => rfl
  | succ m ih =>
    have h1 := hv (2 * m)
    have h2 := hv (2 * m + 1)
    rw [pairL_succ, hexL_append, ih, show 2 * (m + 1) = 2 * m + 1 + 1 by omega, List.range_succ, List.range_succ]
    simp only [hexL, List.map_append, List.map_cons, List.map_nil, List.append_assoc, List.cons_append, List.nil_append]
    rw [show (v (2 * m) * 16 + v (2 * m + 1)) / 16 = v (2 * m) by omega, show (v (2 * m) * 16 + v (2 * m + 1)) % 16 = v (2 * m + 1) by omega]
theorem bytes_chr (s : ByteArray) (n : Nat) (h : s.size = n) : s.data.toList = (List.range n).map fun i => (chr s i).toNat.toUInt8 := by
  apply List.ext_getElem?
  intro i
  rcases Nat.lt_or_ge i n with hi | hi
  · have e : s.data.toList[i]? = some (s.data.toList.getD i 0) := by
      have : i < s.data.toList.length := by rw [Array.length_toList]; show i < s.size; omega
      rw [List.getD, List.getElem?_eq_getElem this]; rfl
    rw [e, List.getElem?_map, List.getElem?_range hi]
    simp [chr]
  · rw [List.getElem?_eq_none (by rw [Array.length_toList]; show s.size ≤ i; omega), List.getElem?_eq_none (by simpa using hi)]
theorem toU8_inj (a b : Int) (ha : 0 ≤ a) (ha' : a < 256) (hb : 0 ≤ b) (hb' : b < 256) (h : a.toNat.toUInt8 = b.toNat.toUInt8) : a = b := by
  have := congrArg UInt8.toNat h
  simp at this
  omega
theorem val_dig (c : Int) (h : 0 ≤ dig c) (h0 : 0 ≤ c) (h1 : c < 256) : val c = dig c ∧ nib (dig c) = c := by
  rcases dig_any c h0 h1 with h' | ⟨_, h3, h4⟩
  · omega
  · exact ⟨by unfold val valTo; rw [if_pos (by omega)], h4⟩
theorem plain_iff (s : ByteArray) (hs : s.size = 64) : bytesOf (hexL (refL (valS s) 64)) = s.data.toList ↔ allDig s 64 := by
  rw [refL_all, hexL_pair _ (valS_in s), bytes_chr s 64 hs, bytesOf, List.map_map]
  constructor
  · intro h i hi
    have := List.map_inj_left.1 h i (by simpa using hi)
    have h1 := valS_in s i
    have h2 := nib_in _ h1.1 h1.2
    have h3 := chr_in s i
    have h4 : nib (valS s i) = chr s i := toU8_inj _ _ (by omega) (by omega) h3.1 h3.2 this
    rw [← h4, dig_nib _ h1.1 h1.2]
    exact h1.1
  · intro h
    refine List.map_congr_left fun i hi => ?_
    have hi' : i < 64 := by simpa using hi
    obtain ⟨h1, h2⟩ := val_dig _ (h i hi') (chr_in s i).1 (chr_in s i).2
    show (nib (valS s i)).toNat.toUInt8 = _
    rw [valS, h1, h2]
theorem plain_eq (s : ByteArray) (h : allDig s 64) : fillH s 32 = refL (valS s) 64 := by
  rw [refL_all, fillH, Nat.sub_self]
  simp only [List.replicate_zero, List.append_nil, pairL]
  refine List.map_congr_left fun k hk => ?_
  have hk' : k < 32 := by simpa using hk
  obtain ⟨h1, _⟩ := val_dig _ (h (2 * k) (by omega)) (chr_in s _).1 (chr_in s _).2
  obtain ⟨h2, _⟩ := val_dig _ (h (2 * k + 1) (by omega)) (chr_in s _).1 (chr_in s _).2
  show dig (chr s (2 * k)) * 16 + dig (chr s (2 * k + 1)) = valS s (2 * k) * 16 + valS s (2 * k + 1)
  rw [valS, valS, h1, h2]

theorem eql_hash (t : TypeId) (ht : Tryd.prog.underlying t = some (.array 32 5)) (xs : List Int) (hl : xs.length = 32) (hi : ∀ x ∈ xs, 0 ≤ x ∧ x < 256) (w : World) : (binOp .eql t (.agg (cellsU xs)) (.agg (cellsU xs))).run Tryd.prog w = .ok (.bool true) w := by
  have e : cellsU xs = ((bytesOf xs).map Extern.Stop.cell).toArray := by
    unfold cellsU
    congr 1
    exact (byteCells_of xs hi).symm
  have := run_eql_bytes (P := Tryd.prog) w t 5 32 ht Tryd.underlying5 Tryd.sizeOf5 (bytesOf xs) (bytesOf xs) (by simp [bytesOf, hl]) (by simp [bytesOf, hl])
  rw [e, this]
  simp

theorem hashSize22 (xs : List Int) (h : xs.length = 32) : (Tryd.prog.info? 34).map (·.size) = some (cellsU xs).size := by
  rw [cellsU_size, h]; kernel_rfl

theorem range_keep {w' w'' : World} {b : Nat} {H : List Value} (hb : Below w'.heap.size w' w'') (h : w'.rangeAt b 0 H) : w''.rangeAt b 0 H := fun j v hv => by
  have h1 := h j v hv
  rw [hb.cell (block_lt_of_cell h1)]
  exact h1
theorem wpList_load_want {P : Program} {ops : Array Oper} {rest : List Oper} {op : Oper} {a : Act} {w : World} {Q : Exit → Act → World → Prop} (hw : Region.wanted op (yielded ops a.tmps) = true) (ty : TypeId) (x : Operand) (ho : op.op = .load ty x)
    (b o : Nat) (hx : a.eval x = .pointer (some ⟨b, o, none⟩)) (cs : List Value) (d : TypeDesc) (hc : w.rangeAt b o cs)
    (hu : P.underlying ty = some d) (hd : d.isRow = true) (hi : (P.info? ty).map (·.size) = some cs.length)
    (h : wpList P ops Q rest (a.put op.dst (.agg cs.toArray)) w) : wpList P ops Q (op :: rest) a w := by
  rw [wpList, if_pos hw]
  exact .inl (wp_load_mid ty x ho b o hx cs d hc hu hd hi h)
theorem lt_of_block {w : World} {b : Nat} {o : Obj} (h : w.heap[b]? = some o) : b < w.heap.size := (Array.getElem?_eq_some_iff.1 h).1
theorem range_of_block {w : World} {b : Nat} {H : List Value} {t : TypeId} (h : w.heap[b]? = some (.cells H.toArray t (0, 0))) : w.rangeAt b 0 H := fun j v hv => by
  rw [cell_of_row w b (0 + j) _ _ _ h, Nat.zero_add]
  simpa using hv


theorem hexL_get (l : List Int) (k : Nat) (x : Int) (h : l[k]? = some x) : (hexL l)[2 * k]? = some (nib (x / 16)) ∧ (hexL l)[2 * k + 1]? = some (nib (x % 16)) := by
  induction l generalizing k with
  | nil => simp at h
  | cons y l ih =>
    cases k with
    | zero => simp at h; subst h; exact ⟨rfl, rfl⟩
    | succ k =>
      have := ih k (by simpa using h)
      exact ⟨by simpa [hexL, Nat.mul_add] using this.1, by simpa [hexL, Nat.mul_add] using this.2⟩
theorem chr_of (l : List Int) (i : Nat) (y : Int) (h : l[i]? = some y) (h0 : 0 ≤ y) (h1 : y < 256) : chr ⟨(bytesOf l).toArray⟩ i = y := by
  unfold chr
  show (((bytesOf l).getD i 0).toNat : Int) = y
  rw [List.getD, bytesOf, List.getElem?_map, h]
  simp
  omega
/-- The text of a hash is its own. -/
theorem back_plain (h : List Int) (hl : h.length = 32) (hi : ∀ x ∈ h, 0 ≤ x ∧ x < 256) :
    (⟨(bytesOf (hexL h)).toArray⟩ : ByteArray).size = 64 ∧ allDig ⟨(bytesOf (hexL h)).toArray⟩ 64 ∧ fillH ⟨(bytesOf (hexL h)).toArray⟩ 32 = h := by
  have key : ∀ k, k < 32 → ∃ x, h[k]? = some x ∧ dig (chr ⟨(bytesOf (hexL h)).toArray⟩ (2 * k)) = x / 16 ∧ dig (chr ⟨(bytesOf (hexL h)).toArray⟩ (2 * k + 1)) = x % 16 ∧ 0 ≤ x ∧ x < 256 := fun k hk => by
    have hx : h[k]? = some h[k] := List.getElem?_eq_getElem (by omega)
    have hb := hi _ (List.mem_of_getElem? hx)
    obtain ⟨g1, g2⟩ := hexL_get h k _ hx
    have n1 := nib_in (h[k] / 16) (by omega) (by omega)
    have n2 := nib_in (h[k] % 16) (by omega) (by omega)
    exact ⟨_, hx, by rw [chr_of _ _ _ g1 (by omega) (by omega), dig_nib _ (by omega) (by omega)], by rw [chr_of _ _ _ g2 (by omega) (by omega), dig_nib _ (by omega) (by omega)], hb⟩
  refine ⟨?_, ?_, ?_⟩
  · show (bytesOf (hexL h)).toArray.size = 64
    simp [bytesOf, hexL_len, hl]
  · intro i hi'
    obtain ⟨x, _, h1, h2, h3⟩ := key (i / 2) (by omega)
    rcases Nat.mod_two_eq_zero_or_one i with h0 | h0
    · rw [show i = 2 * (i / 2) by omega, h1]; omega
    · rw [show i = 2 * (i / 2) + 1 by omega, h2]; omega
  · unfold fillH
    rw [Nat.sub_self, List.replicate_zero, List.append_nil, pairL]
    apply List.ext_getElem?
    intro k
    rcases Nat.lt_or_ge k 32 with hk | hk
    · obtain ⟨x, hx, h1, h2, _⟩ := key k hk
      rw [List.getElem?_map, List.getElem?_range hk, hx]
      simp only [Option.map_some]
      rw [h1, h2]
      congr 1
      omega
    · rw [List.getElem?_eq_none (by simpa using hk), List.getElem?_eq_none (by omega)]
theorem text_of (s : ByteArray) (hs : s.size = 64) (h : allDig s 64) : (⟨(bytesOf (hexL (fillH s 32))).toArray⟩ : ByteArray) = s := by
  rw [plain_eq s h, (plain_iff s hs).2 h]
theorem fillH_in (s : ByteArray) (h : allDig s 64) : ∀ x ∈ fillH s 32, 0 ≤ x ∧ x < 256 := by
  rw [plain_eq s h]; exact refL_in s 64
end Go.Proofs.YtjkhkgdijnhdmaaDoor
