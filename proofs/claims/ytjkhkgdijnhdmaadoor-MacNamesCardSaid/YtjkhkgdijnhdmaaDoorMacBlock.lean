/- mac.block: a key's block. -/
import Derived.Test.YtjkhkgdijnhdmaaDoorMacPadded
import Derived.Laws.CopyOwn
import Derived.Deep.WholeRow
namespace Go.Proofs.YtjkhkgdijnhdmaaDoor
open Go.RowKit

/-- Noughts. -/
def zz32 : List Nat := List.replicate 32 0
def z64 : List Nat := List.replicate 64 0
/-- A key of at most 64 bytes, filled up. -/
def fill64 (l : List Nat) : List Nat := l ++ List.replicate (64 - l.length) 0
/-- A key's block. -/
def mkey (k : List Nat) : List Nat := fill64 (if 64 < k.length then Sh.digest k else k)
theorem fill64_len (l : List Nat) (h : l.length ≤ 64) : (fill64 l).length = 64 := by simp [fill64]; omega
theorem fill64_in (l : List Nat) (h : ∀ x ∈ l, x < 256) : ∀ x ∈ fill64 l, x < 256 := by
  intro x hx
  rcases List.mem_append.1 hx with h' | h'
  · exact h x h'
  · have := (List.mem_replicate.1 h').2; omega
theorem mkey_len (k : List Nat) : (mkey k).length = 64 := by
  unfold mkey
  split
  · exact fill64_len _ (by rw [Sh.digest_len]; omega)
  · exact fill64_len _ (by omega)
theorem mkey_in (k : List Nat) (h : ∀ x ∈ k, x < 256) : ∀ x ∈ mkey k, x < 256 := by
  unfold mkey
  split
  · exact fill64_in _ (Sh.digest_in _)
  · exact fill64_in _ h
theorem splice_gen (n : Nat) (l : List Nat) (_h : l.length ≤ n) : splice ((nI (List.replicate n 0)).map (Value.int .u8)) 0 ((nI l).map (Value.int .u8)) = (nI (l ++ List.replicate (n - l.length) 0)).map (Value.int .u8) := by
  simp [splice, nI, List.drop_replicate]
theorem splice_fill (l : List Nat) (h : l.length ≤ 64) : (splice ((nI z64).map (Value.int .u8)) 0 ((nI l).map (Value.int .u8))).toArray = arr8 (fill64 l) :=
  congrArg List.toArray (splice_gen 64 l h)
theorem SlI.src {w : World} {B : Nat} {A : Option Addr} {n c : Nat} {xs : List Int} (h : SlI w B .u8 A n c xs) (h0 : 0 < xs.length) : ∃ ad, A = some ad ∧ ∀ j v, (xs.map (Value.int .u8))[j]? = some v → w.cell? (ad.add j) = some v := by
  obtain ⟨_, _, _, _, h5⟩ := h
  obtain ⟨g, off, rfl, _, hc⟩ := h5 h0
  refine ⟨_, rfl, fun j v hv => ?_⟩
  simp only [List.getElem?_map, Option.map_eq_some_iff] at hv
  obtain ⟨x, hx, rfl⟩ := hv
  rw [show (⟨g, off, none⟩ : Addr).add j = ⟨g, off + j, none⟩ by unfold Addr.add; split <;> simp_all]
  exact hc j x hx
/-- A guard: here stands a copy. -/
theorem at_copy {P : Program} {ops : Array Oper} {Q : Exit → Act → World → Prop} {dst : Option Tmp} {s x : Operand} {t t' ty : TypeId} {pos : String} {af : Array Edge} {rest : List Oper} {a : Act} {w : World}
    (h : wpList P ops Q ({ dst := dst, op := .call { callee := .builtin .copy, args := #[s, x], argTypes := #[t, t'] }, type := ty, pos := pos, after := af, guard := none } :: rest) a w) :
    wpList P ops Q ({ dst := dst, op := .call { callee := .builtin .copy, args := #[s, x], argTypes := #[t, t'] }, type := ty, pos := pos, after := af, guard := none } :: rest) a w := h
theorem infoB1 : (Tryd.prog.info? 5).map (·.size) = some 1 := by kernel_rfl

set_option maxRecDepth 100000 in
theorem block_own (A : Option Addr) (cap : Nat) (bs : List Nat) (w : World) (hT : Tab w 0 .u32 firstI) (hT2 : Tab w 1 .u32 kI) (hR : SlI w w.heap.size .u8 A bs.length cap (nI bs)) (hbs : ∀ x ∈ bs, x < 256) (hmax : bs.length ≤ 999000) :
    Calls Tryd.prog 50 #[.slice A bs.length cap] w fun e w' => e = .returned (.agg (arr8 (mkey bs))) ∧ Below w.heap.size w w' := by
  have hu := Tryd.underlying61
  have hs0 := arr64_size z64 rfl
  have hsK := arr64_size (mkey bs) (mkey_len bs)
  obtain ⟨w1, hw1⟩ : ∃ w1, (w.alloc (.cells (arr8 z64) 61)).alloc (.cells (arr8 z64) 61) = w1 := ⟨_, rfl⟩
  have hb1 : Below w.heap.size w w1 := by rw [← hw1]; exact ((Below.refl _ w).alloc (Nat.le_refl _) _).alloc (by simp) _
  have hO1 : Held w1 w.heap.size 61 (arr8 z64) := by rw [← hw1]; exact (Held.new w _ _).alloc _
  have hP1 : Held w1 (w.heap.size + 1) 61 (arr8 z64) := by rw [← hw1]; have := Held.new (w.alloc (.cells (arr8 z64) 61)) 61 (arr8 z64); rw [World.size_alloc] at this; exact this
  have hq1 : w1.heap.size = w.heap.size + 2 := by rw [← hw1]; simp
  by_cases hl : 64 < bs.length
  · have hdl : (Sh.digest bs).length = 32 := Sh.digest_len bs
    have hk : mkey bs = fill64 (Sh.digest bs) := by unfold mkey; rw [if_pos hl]
    rw [hk] at hsK ⊢
    have HO := Lib.hid (of_own A cap bs w1 (hT.up hb1) (hT2.up hb1) (hR.up hb1) hbs hmax)
    have HS := Lib.hid (splice_fill (Sh.digest bs) (by omega))
    have hF : (arr8 z64).size = (arr8 (fill64 (Sh.digest bs))).size := by rw [arr8_size, arr8_size, fill64_len _ (by omega)]; rfl
    obtain ⟨F, hFe⟩ : ∃ F, fill64 (Sh.digest bs) = F := ⟨_, rfl⟩
    rw [hFe] at HS hF hsK ⊢
    obtain ⟨D, hD⟩ : ∃ D, Sh.digest bs = D := ⟨_, rfl⟩
    rw [hD] at HO HS hdl
    have hsD := hash_size D hdl
    have hs0' : (arr8 zz32).size = (arr8 D).size := by rw [arr8_size, arr8_size, hdl]; rfl
    have hml : (nI D).length = 32 := by rw [nI_len]; exact hdl
    have hfit : 0 + ((nI D).map (Value.int .u8)).length ≤ ((nI z64).map (Value.int .u8)).length := by rw [List.length_map, hml, List.length_map, nI_len]; simp [z64]
    have hn : ((nI D).map (Value.int .u8)).length = Nat.min 32 64 := by rw [List.length_map, hml]; rfl
    have hone : ∀ v ∈ (nI D).map (Value.int .u8), v.oneCell' = true := fun v hv => by
      obtain ⟨x, _, rfl⟩ := List.mem_map.1 hv
      rfl
    clear hR hbs hT hT2 hk hFe hD
    go_in
    go_wp2_with fail
    change Calls _ _ _ ((w.alloc (.cells (arr8 z64) 61)).alloc (.cells (arr8 z64) 61)) _
    rw [hw1]
    refine HO.out.mono ?_
    rintro e w2 ⟨rfl, hb2⟩
    obtain ⟨w3, hw3⟩ : ∃ w3, w2.alloc (.cells (arr8 D) 35) = w3 := ⟨_, rfl⟩
    have hb3 : Below w1.heap.size w1 w3 := by rw [← hw3]; exact hb2.alloc hb2.size _
    have hH3 : Held w3 w2.heap.size 35 (arr8 D) := by rw [← hw3]; exact Held.new _ _ _
    have hP3 : Held w3 (w.heap.size + 1) 61 (arr8 z64) := hP1.below hb3 (by omega)
    have hO3 : Held w3 w.heap.size 61 (arr8 z64) := hO1.below hb3 (by omega)
    have hb3w := hb1.trans (hb3.mono (by omega))
    have hpos : 0 < ((nI D).map (Value.int .u8)).length → ∀ j v, ((nI D).map (Value.int .u8))[j]? = some v → w3.cell? ((⟨w2.heap.size, 0, none⟩ : Addr).add j) = some v := fun _ j v hv => by
      rw [show (⟨w2.heap.size, 0, none⟩ : Addr).add j = ⟨w2.heap.size, j, none⟩ by unfold Addr.add; split <;> simp_all]
      rw [hH3.cell j]
      simpa [arr8] using hv
    obtain ⟨cs, hcs⟩ : ∃ cs, (nI D).map (Value.int .u8) = cs := ⟨_, rfl⟩
    rw [hcs] at hn hpos hfit hone HS
    have HPOS := Lib.hid hpos
    clear hcs hP1 hO1 hb2 hml hpos
    go_wp2_with (first
      | (refine wpList_store_row rfl 35 (.tmp 4) (.tmp 9) rfl w2.heap.size (arr8 D) rfl rfl 35 (arr8 zz32) (heap_alloc_new w2 _) hsD hs0' (arr8_one _) ?_
         rw [World.setRow_alloc_new, hw3])
      | ((with_reducible refine at_copy ?_); refine wpList_copy_splice (w := w3) rfl (.tmp 11) (.tmp 12) 27 27 rfl 5 Tryd.underlying27 infoB1 (some ⟨w.heap.size + 1, 0, none⟩) (some ⟨w2.heap.size, 0, none⟩) 64 64 32 32 rfl rfl (w.heap.size + 1) 0 ((nI z64).map (Value.int .u8)) 61 hP3 cs hn (fun h => ⟨rfl, _, rfl, HPOS.out h⟩) hfit hone (w.heap.size + 1) w3 (Below.refl _ _) (Nat.le_refl _) ?_
         intro w4 hH4 hb4
         have hH4' : Held w4 (w.heap.size + 1) 61 (arr8 F) := by rw [← HS.out]; exact hH4.out
         have hO4 : Held w4 w.heap.size 61 (arr8 z64) := hO3.below hb4 (by omega)
         have hbw := hb3w.trans (hb4.mono (by omega)))
      | (refine wpList_load_row rfl 61 (.tmp 3) rfl (w.heap.size + 1) rfl 61 (arr8 F) (0, 0) _ hH4' hu rfl hsK ?_)
      | (refine wpList_store_row rfl 61 (.tmp 2) (.tmp 14) rfl w.heap.size (arr8 F) rfl rfl 61 (arr8 z64) hO4 hsK hF (arr8_one _) ?_)
      | fail)
    refine bodyPost_ret (v := .agg (arr8 F)) (results_cell_row Tryd.results50 _ _ w.heap.size 61 (arr8 F) (0, 0) _ rfl (setRow_heap _ _ _ _ _ _ hO4) hu rfl hsK) rfl ⟨rfl, below_setRow hbw _ _ (Nat.le_refl _)⟩
  · have hk : mkey bs = fill64 bs := by unfold mkey; rw [if_neg hl]
    rw [hk] at hsK ⊢
    have sX := hR.up hb1
    have hml : (nI bs).length = bs.length := nI_len bs
    have HS := Lib.hid (splice_fill bs (by omega))
    have hrs := Tryd.results50
    have hF : (arr8 z64).size = (arr8 (fill64 bs)).size := by rw [arr8_size, arr8_size, fill64_len _ (by omega)]; rfl
    obtain ⟨F, hFe⟩ : ∃ F, fill64 bs = F := ⟨_, rfl⟩
    rw [hFe] at HS hF hsK ⊢
    have hbl : bs.length ≤ 64 := by omega
    clear hR hbs hT hT2 hk hFe
    go_in
    have hn : ((nI bs).map (Value.int .u8)).length = Nat.min bs.length 64 := by rw [List.length_map, hml]; exact (Nat.min_eq_left hbl).symm
    have hpos : 0 < ((nI bs).map (Value.int .u8)).length → (some (⟨w.heap.size + 1, 0, none⟩ : Addr)) = some ⟨w.heap.size + 1, 0, none⟩ ∧ ∃ ad, A = some ad ∧ ∀ j v, ((nI bs).map (Value.int .u8))[j]? = some v → w1.cell? (ad.add j) = some v := fun h => ⟨rfl, sX.src (by rw [List.length_map] at h; exact h)⟩
    have hfit : 0 + ((nI bs).map (Value.int .u8)).length ≤ ((nI z64).map (Value.int .u8)).length := by rw [List.length_map, hml, List.length_map, nI_len]; simp [z64]; omega
    have hone : ∀ v ∈ (nI bs).map (Value.int .u8), v.oneCell' = true := fun v hv => by
      obtain ⟨x, _, rfl⟩ := List.mem_map.1 hv
      rfl
    obtain ⟨cs, hcs⟩ : ∃ cs, (nI bs).map (Value.int .u8) = cs := ⟨_, rfl⟩
    rw [hcs] at hn hpos hfit hone HS
    clear hcs
    rw [← hw1] at hP1 hpos
    go_wp2_with (first
      | ((with_reducible refine at_copy ?_); refine wpList_copy_splice (w := (w.alloc (.cells (arr8 z64) 61)).alloc (.cells (arr8 z64) 61)) rfl (.tmp 11) (.tmp 12) 27 27 rfl 5 Tryd.underlying27 infoB1 (some ⟨w.heap.size + 1, 0, none⟩) A 64 64 bs.length cap rfl rfl (w.heap.size + 1) 0 ((nI z64).map (Value.int .u8)) 61 hP1 cs hn hpos hfit hone (w.heap.size + 1) w1 (by rw [hw1]; exact Below.refl _ _) (Nat.le_refl _) ?_
         intro w2 hH2 hb2
         have hH2' : Held w2 (w.heap.size + 1) 61 (arr8 F) := by rw [← HS.out]; exact hH2.out
         have hO2 : Held w2 w.heap.size 61 (arr8 z64) := hO1.below hb2 (by omega)
         have hbw := hb1.trans (hb2.mono (by omega)))
      | (refine wpList_load_row rfl 61 (.tmp 3) rfl (w.heap.size + 1) rfl 61 (arr8 F) (0, 0) _ hH2' hu rfl hsK ?_)
      | (refine wpList_store_row rfl 61 (.tmp 2) (.tmp 14) rfl w.heap.size (arr8 F) rfl rfl 61 (arr8 z64) hO2 hsK hF (arr8_one _) ?_)
      | fail)
    refine bodyPost_ret (v := .agg (arr8 F)) (results_cell_row Tryd.results50 _ _ w.heap.size 61 (arr8 F) (0, 0) _ rfl (setRow_heap _ _ _ _ _ _ hO2) hu rfl hsK) rfl ⟨rfl, below_setRow hbw _ _ (Nat.le_refl _)⟩
end Go.Proofs.YtjkhkgdijnhdmaaDoor
