/- sha.words. -/
import Derived.Test.YtjkhkgdijnhdmaaDoorShaRot
namespace Go.Proofs.YtjkhkgdijnhdmaaDoor
open Go.RowKit

def nI (l : List Nat) : List Int := l.map fun (x : Nat) => (x : Int)
def arrU (l : List Nat) : Array Value := ((nI l).map (Value.int .u32)).toArray
theorem below_setRow {B : Nat} {a w : World} (h : Below B a w) (g : Nat) (cs : Array Value) (hg : B ≤ g) : Below B a (w.setRow g cs) :=
  h.trans ⟨rfl, rfl, rfl, by simp, fun k hk => setRow_other w g k cs (by omega)⟩
theorem nI_len (l : List Nat) : (nI l).length = l.length := by simp [nI]
theorem nI_at (l : List Nat) (i : Nat) : (nI l)[i]? = l[i]?.map fun (x : Nat) => (x : Int) := by simp [nI]
theorem arrU_size (l : List Nat) : (arrU l).size = l.length := by simp [arrU, nI]
theorem arrU_at (l : List Nat) (i x : Nat) (h : l[i]? = some x) : (arrU l)[i]? = some (.int .u32 (x : Int)) := by simp [arrU, nI, h]
theorem arrU_set (l : List Nat) (i y : Nat) : (arrU l).setIfInBounds i (.int .u32 (y : Int)) = arrU (l.set i y) := by
  unfold arrU nI; rw [List.map_set, List.map_set]; simp
theorem arrU_one (l : List Nat) : (arrU l).all (·.oneCell') = true := by
  simp [arrU, Value.oneCell']
theorem wordsInfo : (Tryd.prog.info? 69).map (fun i => (i.zero, i.size)) = some (some (.agg (arrU (List.replicate 64 0))), 64) := by kernel_rfl
theorem wordsSize : (Tryd.prog.info? 69).map (·.size) = some 64 := by kernel_rfl
/-- The first j words, and noughts. -/
def filled (b : List Nat) (j : Nat) : List Nat := Sh.words b j ++ List.replicate (64 - j) 0
theorem filled_len (b : List Nat) (j : Nat) (h : j ≤ 64) : (filled b j).length = 64 := by simp [filled, Sh.words_len]; omega
theorem filled_at (b : List Nat) (j i : Nat) (h : i < j) : (filled b j)[i]? = some ((Sh.words b j).getD i 0) := by
  unfold filled
  have hl := Sh.words_len b j
  rw [List.getElem?_append_left (by omega), List.getD, List.getElem?_eq_getElem (by omega)]
  rfl
theorem filled_step (b : List Nat) (j : Nat) (h : j < 64) : (filled b j).set j (if j < 16 then Sh.four b j else Sh.next (Sh.words b j) j) = filled b (j + 1) := by
  unfold filled
  rw [List.set_append_right _ _ (by rw [Sh.words_len]; omega), Sh.words_len, Nat.sub_self, show 64 - j = (64 - (j + 1)) + 1 by omega, List.replicate_succ]
  simp [Sh.words]
theorem word_lt (b : List Nat) (hb : ∀ x ∈ b, x < 256) (m i : Nat) : (Sh.words b m).getD i 0 < 4294967296 := by
  rw [List.getD]
  cases e : (Sh.words b m)[i]? with
  | none => simp
  | some x => exact Sh.words_lt b hb m x (List.mem_of_getElem? e)

theorem sig0_plain (x : Nat) (hx : x < 4294967296) : bits BinOp.xor IntKind.u32 (bits BinOp.xor IntKind.u32 ((Sh.rotr x 7 : Nat) : Int) ((Sh.rotr x 18 : Nat) : Int)) ((x : Int) / 8) = ((Sh.sig0 x : Nat) : Int) := by
  have h1 := Sh.rotr_lt x 7 hx
  have h2 := Sh.rotr_lt x 18 hx
  have e : (x : Int) / 8 = ((x / 8 : Nat) : Int) := by omega
  rw [e, u32_xor_nat _ _ h1 h2, u32_xor_nat _ _ (Sh.xor_lt h1 h2) (by omega)]
  rfl
theorem sig1_plain (x : Nat) (hx : x < 4294967296) : bits BinOp.xor IntKind.u32 (bits BinOp.xor IntKind.u32 ((Sh.rotr x 17 : Nat) : Int) ((Sh.rotr x 19 : Nat) : Int)) ((x : Int) / 1024) = ((Sh.sig1 x : Nat) : Int) := by
  have h1 := Sh.rotr_lt x 17 hx
  have h2 := Sh.rotr_lt x 19 hx
  have e : (x : Int) / 1024 = ((x / 1024 : Nat) : Int) := by omega
  rw [e, u32_xor_nat _ _ h1 h2, u32_xor_nat _ _ (Sh.xor_lt h1 h2) (by omega)]
  rfl
theorem or_four (a b c d : Nat) (ha : a < 256) (hb : b < 256) (hc : c < 256) (hd : d < 256) :
    bits BinOp.or IntKind.u32 (bits BinOp.or IntKind.u32 (bits BinOp.or IntKind.u32 ((a : Int) % 4294967296 * 16777216 % 4294967296) ((b : Int) % 4294967296 * 65536 % 4294967296)) ((c : Int) % 4294967296 * 256 % 4294967296)) ((d : Int) % 4294967296) = ((a * 16777216 + b * 65536 + c * 256 + d : Nat) : Int) := by
  have e1 : (a : Int) % 4294967296 * 16777216 % 4294967296 = ((a * 16777216 : Nat) : Int) := by omega
  have e2 : (b : Int) % 4294967296 * 65536 % 4294967296 = ((b * 65536 : Nat) : Int) := by omega
  have e3 : (c : Int) % 4294967296 * 256 % 4294967296 = ((c * 256 : Nat) : Int) := by omega
  have e4 : (d : Int) % 4294967296 = ((d : Nat) : Int) := by omega
  rw [e1, e2, e3, e4, u32_or_nat _ _ (by omega) (by omega), nat_join 24 _ _ (by omega) (by omega), u32_or_nat _ _ (by omega) (by omega), nat_join 16 _ _ (by omega) (by omega), u32_or_nat _ _ (by omega) (by omega), nat_join 8 _ _ (by omega) (by omega)]
theorem nI_some {l : List Nat} {i : Nat} {y : Int} (h : (nI l)[i]? = some y) : ∃ x : Nat, y = x ∧ l[i]? = some x := by
  rw [nI_at, Option.map_eq_some_iff] at h
  obtain ⟨x, hx, rfl⟩ := h
  exact ⟨x, rfl, hx⟩
set_option maxRecDepth 100000 in
set_option maxHeartbeats 8000000 in
theorem words_own (A : Option Addr) (cap : Nat) (bs : List Nat) (hl : bs.length = 64) (hb : ∀ x ∈ bs, x < 256) (hcap : 64 ≤ cap) (w : World) (hR : RdI w w.heap.size .u8 A (nI bs)) :
    Calls Tryd.prog 55 #[.slice A 64 cap] w fun e w' => e = .returned (.agg (arrU (Sh.words bs 64))) ∧ Below w.heap.size w w' := by
  have HR := Lib.hid hR
  have HL := Lib.hid hl
  have HB := Lib.hid hb
  clear hR hl hb
  go_in
  go_wp2
  go_loopw [8] (fun i wr => ∃ (j : Nat), j ≤ 64 ∧ i = .int .i64 j ∧ Held wr w.heap.size 69 (arrU (List.replicate 64 0)) ∧ Held wr (w.heap.size + 1) 69 (arrU (filled bs j)) ∧ Below w.heap.size w wr) (fun i _ => 64 - (intOf i).toNat)
  case atStart => exact ⟨0, by omega, rfl, (Held.new _ _ _).alloc _, by have := Held.new (w.alloc (.cells (arrU (List.replicate 64 0)) 69)) 69 (arrU (List.replicate 64 0)); rw [World.size_alloc] at this; exact this, ((Below.refl _ w).alloc (Nat.le_refl _) _).alloc (by simp) _⟩
  case round =>
    obtain ⟨j, hj, rfl, hX0, hX, hbel⟩ := hrel
    by_cases hlt : j < 16
    · obtain ⟨g, off, y0, rfl, hgb, hy0, hc0⟩ := (HR.out.below hbel).at_ (i := 4 * j) (by rw [nI_len, HL.out]; omega)
      obtain ⟨g', off', y1, hg', _, hy1, hc1⟩ := (HR.out.below hbel).at_ (i := 4 * j + 1) (by rw [nI_len, HL.out]; omega)
      injection hg' with hg'; injection hg' with hg' ho'; subst hg'; subst ho'
      obtain ⟨g', off', y2, hg', _, hy2, hc2⟩ := (HR.out.below hbel).at_ (i := 4 * j + 2) (by rw [nI_len, HL.out]; omega)
      injection hg' with hg'; injection hg' with hg' ho'; subst hg'; subst ho'
      obtain ⟨g', off', y3, hg', _, hy3, hc3⟩ := (HR.out.below hbel).at_ (i := 4 * j + 3) (by rw [nI_len, HL.out]; omega)
      injection hg' with hg'; injection hg' with hg' ho'; subst hg'; subst ho'
      rw [← Nat.add_assoc] at hc1 hc2 hc3
      have hcell := hX.cell j
      rw [arrU_at _ _ 0 (by rw [filled, List.getElem?_append_right (by rw [Sh.words_len]; omega), Sh.words_len, Nat.sub_self, List.getElem?_replicate, if_pos (by omega)])] at hcell
      have hfz := hX.frozen j
      obtain ⟨b0, rfl, hz0⟩ := nI_some hy0
      obtain ⟨b1, rfl, hz1⟩ := nI_some hy1
      obtain ⟨b2, rfl, hz2⟩ := nI_some hy2
      obtain ⟨b3, rfl, hz3⟩ := nI_some hy3
      have HF := Lib.hid (show b0 * 16777216 + b1 * 65536 + b2 * 256 + b3 = Sh.four bs j by simp [Sh.four, List.getD, hz0, hz1, hz2, hz3])
      have HO := Lib.hid (or_four b0 b1 b2 b3 (HB.out _ (List.mem_of_getElem? hz0)) (HB.out _ (List.mem_of_getElem? hz1)) (HB.out _ (List.mem_of_getElem? hz2)) (HB.out _ (List.mem_of_getElem? hz3)))
      have HS := Lib.hid (filled_step bs j (by omega))
      clear hy0 hy1 hy2 hy3 hz0 hz1 hz2 hz3
      go_wp2
      have q0 : 0 < 64 - 4 * j := by omega
      have q1 : 1 < 64 - 4 * j := by omega
      have q2 : 2 < 64 - 4 * j := by omega
      have q3 : 3 < 64 - 4 * j := by omega
      go_region
      rw [HO.out, HF.out]
      go_wp2
      go_roundw
      case rel =>
        refine ⟨j + 1, by omega, by go_num, (hX0.far (by simp) _).drew, ?_, (hbel.setCell (p := ⟨w.heap.size + 1, j, none⟩) (by simp) _).drew⟩
        have := (hX.set j (.int .u32 (Sh.four bs j : Nat))).drew
        rw [arrU_set] at this
        rw [← HS.out, if_pos (by omega)]
        exact this
      case measure => simp [intOf]; omega
    · by_cases hlt2 : j < 64
      · obtain ⟨i15, k15⟩ : ∃ i : Nat, i = j - 15 := ⟨_, rfl⟩
        obtain ⟨i2, k2⟩ : ∃ i : Nat, i = j - 2 := ⟨_, rfl⟩
        obtain ⟨i7, k7⟩ : ∃ i : Nat, i = j - 7 := ⟨_, rfl⟩
        obtain ⟨i16, k16⟩ : ∃ i : Nat, i = j - 16 := ⟨_, rfl⟩
        have e15 : (j : Int) - 15 = (i15 : Int) := by omega
        have e2 : (j : Int) - 2 = (i2 : Int) := by omega
        have e7 : (j : Int) - 7 = (i7 : Int) := by omega
        have e16 : (j : Int) - 16 = (i16 : Int) := by omega
        have b15 : i15 < 64 := by omega
        have b2 : i2 < 64 := by omega
        have b7 : i7 < 64 := by omega
        have b16 : i16 < 64 := by omega
        have hcell := hX.cell j
        rw [arrU_at _ _ 0 (by rw [filled, List.getElem?_append_right (by rw [Sh.words_len]; omega), Sh.words_len, Nat.sub_self, List.getElem?_replicate, if_pos (by omega)])] at hcell
        have hfz := hX.frozen j
        have c1 := (hX.cell i15).trans (arrU_at _ _ _ (filled_at bs j i15 (by omega)))
        have c2 := (hX.cell i2).trans (arrU_at _ _ _ (filled_at bs j i2 (by omega)))
        have c3 := (hX.cell i7).trans (arrU_at _ _ _ (filled_at bs j i7 (by omega)))
        have c4 := (hX.cell i16).trans (arrU_at _ _ _ (filled_at bs j i16 (by omega)))
        have l1 := word_lt bs HB.out j i15
        have l2 := word_lt bs HB.out j i2
        have l3 := word_lt bs HB.out j i7
        have l4 := word_lt bs HB.out j i16
        have HS := Lib.hid (filled_step bs j (by omega))
        have HN := Lib.hid (show Sh.next (Sh.words bs j) j = (Sh.sig1 ((Sh.words bs j).getD i2 0) + (Sh.words bs j).getD i7 0 + Sh.sig0 ((Sh.words bs j).getD i15 0) + (Sh.words bs j).getD i16 0) % 4294967296 by
          rw [k15, k2, k7, k16]; rfl)
        clear k15 k2 k7 k16
        generalize (Sh.words bs j).getD i15 0 = x at c1 l1 HN
        generalize (Sh.words bs j).getD i2 0 = y at c2 l2 HN
        generalize (Sh.words bs j).getD i7 0 = p at c3 l3 HN
        generalize (Sh.words bs j).getD i16 0 = r at c4 l4 HN
        have S0 := Lib.hid (sig0_plain x l1)
        have S1 := Lib.hid (sig1_plain y l2)
        have NX := Lib.hid (show (((Sh.sig1 y : Nat) : Int) + (p : Int) + ((Sh.sig0 x : Nat) : Int) + (r : Int)) % 4294967296 = ((Sh.next (Sh.words bs j) j : Nat) : Int) by rw [HN.out]; omega)
        have R7 := Lib.hid (rot_7 x l1)
        have R18 := Lib.hid (rot_18 x l1)
        have R17 := Lib.hid (rot_17 y l2)
        have R19 := Lib.hid (rot_19 y l2)
        go_wp2
        go_region
        have HC := Lib.hid (And.intro hcell (And.intro hfz (And.intro c3 c4)))
        clear hcell hfz c1 c2 c3 c4
        go_wp2_with (first
          | (go_at_call 56; (with_reducible refine (R7.out _).mono ?_); rintro e w' ⟨rfl, rfl⟩)
          | (go_at_call 56; (with_reducible refine (R18.out _).mono ?_); rintro e w' ⟨rfl, rfl⟩)
          | (go_at_call 56; (with_reducible refine (R17.out _).mono ?_); rintro e w' ⟨rfl, rfl⟩)
          | (go_at_call 56; (with_reducible refine (R19.out _).mono ?_); rintro e w' ⟨rfl, rfl⟩))
        rw [S0.out, S1.out]
        obtain ⟨hcell, hfz, c3, c4⟩ := HC.out
        go_region
        rw [NX.out]
        go_wp2
        go_roundw
        case rel =>
          refine ⟨j + 1, by omega, by go_num, (hX0.far (by simp) _).drew, ?_, (hbel.drew.setCell (p := ⟨w.heap.size + 1, j, none⟩) (by simp) _).drew⟩
          have := (hX.drew.set j (.int .u32 (Sh.next (Sh.words bs j) j : Nat))).drew
          rw [arrU_set] at this
          rw [← HS.out, if_neg (by omega)]
          exact this
        case measure => simp [intOf]; omega
      · obtain rfl : j = 64 := by omega
        have e : filled bs 64 = Sh.words bs 64 := by simp [filled]
        rw [e] at hX
        have hs : (Tryd.prog.info? 69).map (·.size) = some (arrU (Sh.words bs 64)).size := by rw [arrU_size, Sh.words_len]; exact wordsSize
        go_wp2_with (first
          | (refine wpList_load_row rfl 69 (.tmp 3) rfl (w.heap.size + 1) rfl 69 (arrU (Sh.words bs 64)) (0, 0) _ hX Tryd.underlying69 rfl hs ?_)
          | (refine wpList_store_row rfl 69 (.tmp 2) (.tmp 81) rfl w.heap.size (arrU (Sh.words bs 64)) rfl rfl 69 (arrU (List.replicate 64 0)) hX0 hs (by rw [arrU_size, arrU_size, Sh.words_len]; rfl) (arrU_one _) ?_))
        refine bodyPost_ret (v := .agg (arrU (Sh.words bs 64))) (results_cell_row Tryd.results55 _ _ w.heap.size 69 (arrU (Sh.words bs 64)) (0, 0) _ rfl (setRow_heap _ _ _ _ _ _ hX0) Tryd.underlying69 rfl hs) rfl ⟨rfl, below_setRow hbel _ _ (Nat.le_refl _)⟩
end Go.Proofs.YtjkhkgdijnhdmaaDoor
