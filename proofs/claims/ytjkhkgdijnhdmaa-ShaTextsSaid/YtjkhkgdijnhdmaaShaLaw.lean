/- The hash's texts: what both compute is the same; the law's walk. -/
import Derived.Test.YtjkhkgdijnhdmaaShaRefParse
import Derived.Test.YtjkhkgdijnhdmaaOrders
import Derived.Stop.BytesEq
import Derived.Deep.WholeRow
namespace Go.Proofs.Ytjkhkgdijnhdmaa
open Go.RowKit

theorem hexL_pair (v : Nat → Int) (hv : ∀ i, 0 ≤ v i ∧ v i < 16) (m : Nat) : hexL (pairL v m) = (List.range (2 * m)).map fun i => nib (v i) := by
  induction m with
  | zero => rfl
  | succ m ih =>
    have h1 := hv (2 * m)
    have h2 := hv (2 * m + 1)
    rw [pairL_succ, hexL_append, ih, show 2 * (m + 1) = 2 * m + 1 + 1 by omega, List.range_succ, List.range_succ]
    simp only [hexL, List.map_append, List.map_cons, List.map_nil, List.append_assoc, List.cons_append, List.nil_append]
    rw [show (v (2 * m) * 16 + v (2 * m + 1)) / 16 = v (2 * m) by omega, show (v (2 * m) * 16 + v (2 * m + 1)) % 16 = v (2 * m + 1) by omega]
theorem bytes_chr (s : ByteArray) (n : Nat) (h : s.size = n) : s.data.toList = (List.range n).map fun i => (chr s i).toNat.toUInt8 := by
  apply List.ext_getElem?
  intro i
  rcases Nat.lt_or_ge i n with hi | hi
  · have e : s.data.toList[i]? = some (s.data.toList.getD i 0) := by
      have : i < s.data.toList.length := by rw [Array.length_toList]; show i < s.size; omega
      rw [List.getD, List.getElem?_eq_getElem this]; rfl
    rw [e, List.getElem?_map, List.getElem?_range hi]
    simp [chr]
  · rw [List.getElem?_eq_none (by rw [Array.length_toList]; show s.size ≤ i; omega), List.getElem?_eq_none (by simpa using hi)]
theorem toU8_inj (a b : Int) (ha : 0 ≤ a) (ha' : a < 256) (hb : 0 ≤ b) (hb' : b < 256) (h : a.toNat.toUInt8 = b.toNat.toUInt8) : a = b := by
  have := congrArg UInt8.toNat h
  simp at this
  omega
theorem val_dig (c : Int) (h : 0 ≤ dig c) (h0 : 0 ≤ c) (h1 : c < 256) : val c = dig c ∧ nib (dig c) = c := by
  rcases dig_any c h0 h1 with h' | ⟨_, h3, h4⟩
  · omega
  · exact ⟨by unfold val valTo; rw [if_pos (by omega)], h4⟩
theorem plain_iff (s : ByteArray) (hs : s.size = 64) : bytesOf (hexL (refL (valS s) 64)) = s.data.toList ↔ allDig s 64 := by
  rw [refL_all, hexL_pair _ (valS_in s), bytes_chr s 64 hs, bytesOf, List.map_map]
  constructor
  · intro h i hi
    have := List.map_inj_left.1 h i (by simpa using hi)
    have h1 := valS_in s i
    have h2 := nib_in _ h1.1 h1.2
    have h3 := chr_in s i
    have h4 : nib (valS s i) = chr s i := toU8_inj _ _ (by omega) (by omega) h3.1 h3.2 this
    rw [← h4, dig_nib _ h1.1 h1.2]
    exact h1.1
  · intro h
    refine List.map_congr_left fun i hi => ?_
    have hi' : i < 64 := by simpa using hi
    obtain ⟨h1, h2⟩ := val_dig _ (h i hi') (chr_in s i).1 (chr_in s i).2
    show (nib (valS s i)).toNat.toUInt8 = _
    rw [valS, h1, h2]
theorem plain_eq (s : ByteArray) (h : allDig s 64) : fillH s 32 = refL (valS s) 64 := by
  rw [refL_all, fillH, Nat.sub_self]
  simp only [List.replicate_zero, List.append_nil, pairL]
  refine List.map_congr_left fun k hk => ?_
  have hk' : k < 32 := by simpa using hk
  obtain ⟨h1, _⟩ := val_dig _ (h (2 * k) (by omega)) (chr_in s _).1 (chr_in s _).2
  obtain ⟨h2, _⟩ := val_dig _ (h (2 * k + 1) (by omega)) (chr_in s _).1 (chr_in s _).2
  show dig (chr s (2 * k)) * 16 + dig (chr s (2 * k + 1)) = valS s (2 * k) * 16 + valS s (2 * k + 1)
  rw [valS, valS, h1, h2]

theorem parses (s : ByteArray) : ∃ (xs : List Int) (n : Int), xs.length = 32 ∧ (∀ x ∈ xs, 0 ≤ x ∧ x < 256) ∧
    (∀ w, Calls Try.prog 4 #[.string s] w fun e w' => e = .returned (.tuple #[.agg (cellsU xs), .int .i64 n]) ∧ Below w.heap.size w w') ∧
    (∀ w, Calls Try.prog 5 #[.string s] w fun e w' => e = .returned (.tuple #[.agg (cellsU xs), .int .i64 n]) ∧ Below w.heap.size w w') := by
  by_cases h : s.size = 64 ∧ allDig s 64
  · have hp := (plain_iff s h.1).2 h.2
    refine ⟨refL (valS s) 64, 0, refL_len _ _, refL_in s 64, fun w => (parse_any s w).mono ?_, fun w => (refparse_any s w).mono ?_⟩
    · rintro e w' ⟨h1 | h1, hb⟩
      · exact ⟨by rw [← plain_eq s h.2]; exact h1.2.2, hb⟩
      · exact (h1.1 h).elim
    · rintro e w' ⟨h1 | h1, hb⟩
      · exact ⟨h1.2.2, hb⟩
      · exact (h1.1 ⟨h.1, hp⟩).elim
  · refine ⟨zeroH, 40, rfl, by decide, fun w => (parse_any s w).mono ?_, fun w => (refparse_any s w).mono ?_⟩
    · rintro e w' ⟨h1 | h1, hb⟩
      · exact (h ⟨h1.1, h1.2.1⟩).elim
      · exact ⟨h1.2, hb⟩
    · rintro e w' ⟨h1 | h1, hb⟩
      · exact (h ⟨h1.1, (plain_iff s h1.1).1 h1.2.1⟩).elim
      · exact ⟨h1.2, hb⟩

theorem eql_hash (t : TypeId) (ht : Try.prog.underlying t = some (.array 32 5)) (xs : List Int) (hl : xs.length = 32) (hi : ∀ x ∈ xs, 0 ≤ x ∧ x < 256) (w : World) : (binOp .eql t (.agg (cellsU xs)) (.agg (cellsU xs))).run Try.prog w = .ok (.bool true) w := by
  have e : cellsU xs = ((bytesOf xs).map Extern.Stop.cell).toArray := by
    unfold cellsU
    congr 1
    exact (byteCells_of xs hi).symm
  have := run_eql_bytes (P := Try.prog) w t 5 32 ht Try.underlying5 Try.sizeOf5 (bytesOf xs) (bytesOf xs) (by simp [bytesOf, hl]) (by simp [bytesOf, hl])
  rw [e, this]
  simp

theorem hashSize22 (xs : List Int) (h : xs.length = 32) : (Try.prog.info? 22).map (·.size) = some (cellsU xs).size := by
  rw [cellsU_size, h]; kernel_rfl

/-- The three arrays of the law, and all that stood before. -/
abbrev S3 (H X : List Value) (w : World) (B b0 b1 b2 : Nat) (w' : World) : Prop :=
  w'.rangeAt b0 0 H ∧ w'.rangeAt b1 0 X ∧ w'.rangeAt b2 0 X ∧ Below B w w' ∧ B ≤ w'.heap.size
theorem range_keep {w' w'' : World} {b : Nat} {H : List Value} (hb : Below w'.heap.size w' w'') (h : w'.rangeAt b 0 H) : w''.rangeAt b 0 H := fun j v hv => by
  have h1 := h j v hv
  rw [hb.cell (block_lt_of_cell h1)]
  exact h1
theorem S3.keep {H X : List Value} {w w' w'' : World} {B b0 b1 b2 : Nat} (hb : Below w'.heap.size w' w'') (hs : S3 H X w B b0 b1 b2 w') : S3 H X w B b0 b1 b2 w'' :=
  ⟨range_keep hb hs.1, range_keep hb hs.2.1, range_keep hb hs.2.2.1, hs.2.2.2.1.trans (hb.mono hs.2.2.2.2), Nat.le_trans hs.2.2.2.2 hb.size⟩
theorem wpList_load_want {P : Program} {ops : Array Oper} {rest : List Oper} {op : Oper} {a : Act} {w : World} {Q : Exit → Act → World → Prop} (hw : Region.wanted op (yielded ops a.tmps) = true) (ty : TypeId) (x : Operand) (ho : op.op = .load ty x)
    (b o : Nat) (hx : a.eval x = .pointer (some ⟨b, o, none⟩)) (cs : List Value) (d : TypeDesc) (hc : w.rangeAt b o cs)
    (hu : P.underlying ty = some d) (hd : d.isRow = true) (hi : (P.info? ty).map (·.size) = some cs.length)
    (h : wpList P ops Q rest (a.put op.dst (.agg cs.toArray)) w) : wpList P ops Q (op :: rest) a w := by
  rw [wpList, if_pos hw]
  exact .inl (wp_load_mid ty x ho b o hx cs d hc hu hd hi h)
theorem lt_of_block {w : World} {b : Nat} {o : Obj} (h : w.heap[b]? = some o) : b < w.heap.size := (Array.getElem?_eq_some_iff.1 h).1
theorem range_of_block {w : World} {b : Nat} {H : List Value} {t : TypeId} (h : w.heap[b]? = some (.cells H.toArray t (0, 0))) : w.rangeAt b 0 H := fun j v hv => by
  rw [cell_of_row w b (0 + j) _ _ _ h, Nat.zero_add]
  simpa using hv

set_option maxHeartbeats 4000000 in
theorem law_texts (h : List Int) (s : ByteArray) (w : World) (hl : h.length = 32) (hi : ∀ x ∈ h, 0 ≤ x ∧ x < 256) :
    Calls Try.prog 3 #[.agg (cellsU h), .string s] w fun e w' => e = .returned (.bool true) ∧ Below w.heap.size w w' := by
  by_cases hs : s.size ≤ 200
  · obtain ⟨xs, n, hxl, hxi, hp1, hp2⟩ := parses s
    have HP1 := Lib.hid hp1
    have HP2 := Lib.hid hp2
    have HI := Lib.hid hi
    have HL := Lib.hid hl
    have HXL := Lib.hid hxl
    have hsx : (cellsU xs).size = 32 := by rw [cellsU_size, hxl]
    have heq := eql_hash 23 Try.underlying23 xs hxl hxi
    have HEQ := Lib.hid heq
    clear hp1 hp2 hi hl hxl hxi heq
    go_in
    go_wp2_with fail
    go_at_call 4
    refine (HP1.out _).mono ?_
    rintro e w1 ⟨rfl, hb1⟩
    have hbb1 : Below w.heap.size w w1 := ((Below.refl _ w).alloc (Nat.le_refl _) _).trans (hb1.mono (by simp))
    have hh1 : Hid (w1.heap[w.heap.size]? = some (.cells (cellsU h) 22 (0, 0))) := Lib.hid ((hb1.block _ (by simp)).trans (heap_alloc_new w _))
    clear hb1
    go_wp2_with (first
      | (refine wpList_store_row rfl 23 (.tmp 5) (.tmp 15) rfl w1.heap.size (cellsU xs) rfl rfl 23 (cellsU zeroH) (heap_alloc_new w1 _) (hashCells xs HXL.out) (by rw [cellsU_size, cellsU_size, HXL.out]; rfl) (cellsU_one _) ?_
         rw [World.setRow_alloc_new])
      | (go_at_call 5; refine (HP2.out _).mono ?_))
    rintro e w2 ⟨rfl, hb2⟩
    have hlt1 : w1.heap.size < w2.heap.size := Nat.lt_of_lt_of_le (by simp) hb2.size
    have hs2 : ∀ w3, w3 = w2.alloc (.cells (cellsU xs) 23) → S3 (h.map (Value.int .u8)) (xs.map (Value.int .u8)) w w.heap.size w.heap.size w1.heap.size w2.heap.size w3 := by
      rintro w3 rfl
      have hl0 := lt_of_block hh1.out
      refine ⟨range_of_block (t := 22) ?_, range_of_block (t := 23) ?_, range_of_block (t := 23) (heap_alloc_new w2 _), (hbb1.trans (((Below.refl _ w1).alloc hbb1.size _).trans (hb2.mono (by have := hbb1.size; simp; omega)))).alloc (by have := hbb1.size; omega) _, by have := hbb1.size; simp; omega⟩
      · exact (Lib.alloc_old w2 _ _ (by omega)).trans ((hb2.block _ (by simp; omega)).trans ((Lib.alloc_old w1 _ _ hl0).trans hh1.out))
      · exact (Lib.alloc_old w2 _ _ hlt1).trans ((hb2.block _ (by simp)).trans (heap_alloc_new w1 _))
    have HS2 := Lib.hid hs2
    clear hb2 hs2
    go_wp2_with (refine wpList_store_row rfl 23 (.tmp 7) (.tmp 20) rfl w2.heap.size (cellsU xs) rfl rfl 23 (cellsU zeroH) (heap_alloc_new w2 _) (hashCells xs HXL.out) (by rw [cellsU_size, cellsU_size, HXL.out]; rfl) (cellsU_one _) ?_; rw [World.setRow_alloc_new]; generalize hw3 : w2.alloc (.cells (cellsU xs) 23) = w3)
    have hS := HS2.out w3 hw3.symm
    have heq : ∀ w, (binOp .eql 23 (.agg (xs.map (Value.int .u8)).toArray) (.agg (xs.map (Value.int .u8)).toArray)).run Try.prog w = .ok (.bool true) w := HEQ.out
    have hu1 := Try.underlying22
    have hu2 := Try.underlying23
    have hz1 : (Try.prog.info? 22).map (·.size) = some (h.map (Value.int .u8)).length := by rw [List.length_map, HL.out]; kernel_rfl
    have hz2 : (Try.prog.info? 23).map (·.size) = some (xs.map (Value.int .u8)).length := by rw [List.length_map, HXL.out]; kernel_rfl
    have c1 : ∀ W, Calls Try.prog 6 #[.agg (h.map (Value.int .u8)).toArray] W _ := fun W => text_any h HL.out HI.out W
    have c2 : ∀ W, Calls Try.prog 7 #[.agg (h.map (Value.int .u8)).toArray] W _ := fun W => reftext_any h HL.out HI.out W
    have C1 := Lib.hid c1
    have C2 := Lib.hid c2
    clear c1 c2 hw3 HEQ HS2 hh1 hbb1 HP1 HP2 hlt1
    generalize h.map (Value.int .u8) = H at hS hz1 C1 C2
    generalize xs.map (Value.int .u8) = X at hS hz2 heq
    obtain ⟨hS1, hS2, hS3, hS4, hS5⟩ := hS
    generalize w1.heap.size = b1 at hS2 ⊢
    generalize w2.heap.size = b2 at hS3 ⊢
    have hS0 : S3 H X w w.heap.size w.heap.size b1 b2 w3.drew := ⟨hS1, hS2, hS3, hS4.drew, hS5⟩
    clear hS1 hS2 hS3 hS4 hS5
    refine wp_region_orders (by kernel_rfl) [[0, 1, 2, 3, 4, 5, 6, 7, 8, 9, 10, 11, 12, 13, 14, 15], [0, 1, 2, 3, 4, 5, 6, 7, 8, 9, 10, 12, 11, 13, 14, 15], [0, 1, 2, 3, 4, 5, 7, 6, 8, 9, 10, 11, 12, 13, 14, 15], [0, 1, 2, 3, 4, 5, 7, 6, 8, 9, 10, 12, 11, 13, 14, 15], [0, 2, 1, 3, 4, 5, 6, 7, 8, 9, 10, 11, 12, 13, 14, 15], [0, 2, 1, 3, 4, 5, 6, 7, 8, 9, 10, 12, 11, 13, 14, 15], [0, 2, 1, 3, 4, 5, 7, 6, 8, 9, 10, 11, 12, 13, 14, 15], [0, 2, 1, 3, 4, 5, 7, 6, 8, 9, 10, 12, 11, 13, 14, 15], [2, 0, 1, 3, 4, 5, 6, 7, 8, 9, 10, 11, 12, 13, 14, 15], [2, 0, 1, 3, 4, 5, 6, 7, 8, 9, 10, 12, 11, 13, 14, 15], [2, 0, 1, 3, 4, 5, 7, 6, 8, 9, 10, 11, 12, 13, 14, 15], [2, 0, 1, 3, 4, 5, 7, 6, 8, 9, 10, 12, 11, 13, 14, 15]] (by kernel_rfl) ?_
    intro o ho
    simp only [List.mem_cons, List.not_mem_nil, or_false] at ho
    rcases ho with rfl | rfl | rfl | rfl | rfl | rfl | rfl | rfl | rfl | rfl | rfl | rfl
    all_goals
      simp only [opsAt_cons, opsAt_nil, List.getElem?_toArray, List.getElem?_cons_succ, List.getElem?_cons_zero, Option.toList_some, List.cons_append, List.nil_append]
      go_wp2_with (first
        | (refine wpList_load_want (by rfl) 22 (.tmp 2) rfl w.heap.size 0 rfl H _ (by first | exact hST.1 | exact hS0.1) hu1 rfl hz1 ?_)
        | (refine wpList_load_want (by rfl) 23 (.tmp 5) rfl b1 0 rfl X _ (by first | exact hST.2.1 | exact hS0.2.1) hu2 rfl hz2 ?_)
        | (refine wpList_load_want (by rfl) 23 (.tmp 7) rfl b2 0 rfl X _ (by first | exact hST.2.2.1 | exact hS0.2.2.1) hu2 rfl hz2 ?_)
        | (go_at_call 6; (with_reducible refine (C1.out _).mono ?_); rintro e wT ⟨rfl, hbT⟩; have hST := S3.keep hbT hS0)
        | (go_at_call 7; (with_reducible refine (C2.out _).mono ?_); rintro e wU ⟨rfl, hbU⟩; have hST := S3.keep hbU hST))
      go_ret
      exact ⟨rfl, hST.2.2.2.1⟩
  · go_in
    go_wp2
    go_ret
    exact ⟨rfl, (Below.refl _ w).alloc (Nat.le_refl _) _⟩

end Go.Proofs.Ytjkhkgdijnhdmaa
