/- regs.FromText. -/
import Derived.Test.YtnglajpmkjgbaaaRegsRefFromText
import Derived.Test.YtnglajpmkjgbaaaRegsFromBytes
import Derived.Test.YtnglajpmkjgbaaaShelf
import Derived.Test.YtnglajpmkjgbaaaScope
import Derived.Test.YtnglajpmkjgbaaaRegsIndex
namespace Go.Proofs.Ytnglajpmkjgbaaa
open Go.RowKit Go.Shelf
attribute [local go_sem] Oper.semAt_some

theorem bytesOf_in (zs : List Reg) : ∀ y ∈ bytesOf zs, 0 ≤ y ∧ y < 256 := by
  intro y hy
  simp only [bytesOf, List.mem_flatMap] at hy
  obtain ⟨⟨x, h0, h1⟩, _, hy⟩ := hy
  simp at hy
  omega
/-- No byte of these registers is nought. -/
def noNought (zs : List Reg) : Prop := ∀ y ∈ bytesOf zs, y ≠ 0
theorem own_take {w : World} {base : Nat} {e : TypeId} {g n c : Nat} {xs : List Value} (h : w.ownsRow base e 1 (.slice (some ⟨g, 0, none⟩) n c) n xs) {k : Nat} (hk : k ≤ n) : w.ownsRow base e 1 (.slice (some ⟨g, 0, none⟩) k c) k (xs.take k) := by
  obtain ⟨hl, h2⟩ := h
  refine ⟨by rw [List.length_take]; omega, ?_⟩
  rcases h2 with ⟨h3, _⟩ | ⟨g', cap, cur, hv, hb, hh, h4, h5, h6, h7⟩
  · cases h3
  · cases hv
    refine Or.inr ⟨g, c, cur, rfl, hb, hh, by omega, h5, h6, ?_⟩
    rw [← h7, List.take_take]
    congr 1
    omega

theorem conv_own {W : World} {base n : Nat} {v : Value} {L : List Int} (h : W.ownsRow base 5 1 v n (L.map (Value.int .u8))) : (convert 44 9 v).run Try.prog W = .ok (.string (strU L)) W := by
  have hl := own_len h
  rcases h.2 with ⟨rfl, h0⟩ | ⟨g, cap, cur, rfl, _⟩
  · obtain rfl : L = [] := List.length_eq_zero_iff.1 (by omega)
    exact run_convert_bytes_nil (P := Try.prog) W 44 5 Try.underlying44 Try.underlying5 0 0 9 Try.underlying9
  · exact run_convert_bytes_arg (P := Try.prog) W 44 5 Try.underlying44 Try.underlying5 g 0 n cap L hl (fun i hi => by
      obtain ⟨y, hy, hc, _⟩ := own_at h (i := i) (by omega)
      simpa [List.getD, hy] using hc) 9 Try.underlying9
theorem bytesOf_append (a b : List Reg) : bytesOf (a ++ b) = bytesOf a ++ bytesOf b := by simp [bytesOf]

set_option maxRecDepth 100000 in
set_option maxHeartbeats 4000000 in
theorem fromtext_in (A : Option Addr) (len cap : Nat) (zs : List Reg) (hreach : len ≤ 1000000) (hl : zs.length = len) (w : World) (hR : RdI w w.heap.size .u16 A (zs.map (·.1))) :
    CallsIn Fence.wide 5 Try.prog 24 #[.slice A len cap] w fun e W' => (∃ k, k ≤ 2 * len ∧ (∀ i, i < k → (bytesOf zs)[i]? ≠ some 0) ∧ (k = 2 * len ∨ (bytesOf zs)[k]? = some 0) ∧ e = .returned (.string (strU ((bytesOf zs).take k)))) ∧ Below w.heap.size w W' := by
  have h2F : Fence.wide.fn 35 := trivial
  have h3F : Fence.wide.fn 40 := trivial
  have h4F : Fence.wide.fn 37 := trivial
  have hro : Fence.wide.round = none := rfl
  have HR := Lib.hid hR
  have HL := Lib.hid hl
  clear hR hl
  obtain ⟨i0, hi, hz0, hz1, hz2⟩ := info_parts infoB
  refine callsIn_of_wp_marks Try.func24 rfl trivial ?_ rfl
  simp only [Try.ntmps24, List.size_toArray, List.length_cons, List.length_nil, Nat.reduceAdd, Nat.reduceSub, Array.replicate_succ, Array.replicate_zero, List.push_toArray, List.append_toArray, List.nil_append, List.cons_append]
  gi_wp2
  refine wpIn_scope ?_
  gi_wp2
  refine wpIn_label ?_
  gi_wp2_with (gi_at_call 35; refine (pairs_in Fence.wide 4 h2F hro A len cap _).mono ?_; rintro e w' ⟨rfl, rfl⟩)
  have bO := Boxed.new w 44 (.slice none 0 0)
  have bN := Boxed.new (w.alloc (.cells #[.slice none 0 0] 44)) 33 (.slice A len cap)
  rw [World.size_alloc] at bN
  have hB0 : Below w.heap.size w ((w.alloc (.cells #[.slice none 0 0] 44)).alloc (.cells #[.slice A len cap] 33)) := ((Below.refl _ w).alloc (Nat.le_refl _) _).alloc (by simp) _
  refine wpIn_rangeFunc_ownH hro (by omega) (gf := 40) (lb := #[.pointer (some ⟨w.heap.size + 1, 0, none⟩)]) rfl h3F (enters_of Try.func40 (by kernel_rfl) rfl)
    (pairs_stops Fence.wide 4 h3F hro (by omega) (w.heap.size + 1) w.heap.size A len cap zs hreach HL.out _ (by simp) (by simp; omega) bN.cell (HR.out.below hB0)) belowK_t (belowK_b (by simp; omega)) (Below.refl _ _) (fun _ => rfl)
    (fun pre W => (∃ v, Boxed W w.heap.size 44 v ∧ W.ownsRow w.heap.size 5 1 v (bytesOf pre).length ((bytesOf pre).map (Value.int .u8)) ∧ noNought pre) ∧ Below w.heap.size w W)
    (fun c pre W => c = .exit 0 ∧ ∃ k, k < (bytesOf pre).length ∧ (∀ i, i < k → (bytesOf pre)[i]? ≠ some 0) ∧ (bytesOf pre)[k]? = some 0 ∧ (∃ v, Boxed W w.heap.size 44 v ∧ W.ownsRow w.heap.size 5 1 v k (((bytesOf pre).take k).map (Value.int .u8)) ∧ True) ∧ Below w.heap.size w W)
    ?own ?ownx
    ⟨⟨_, bO.alloc _, World.ownsRow_nil _ _ _ _, fun y hy => by simp [bytesOf] at hy⟩, hB0⟩
    (fun x a' W => ∃ Bx, w.heap.size < Bx ∧ Held W Bx 66 #[.int .u8 (x.1 / 256), .int .u8 (x.1 % 256)] ∧
      a' = { tmps := #[.slice A len cap, undef, .string ⟨#[]⟩, .pointer (some ⟨w.heap.size, 0, none⟩), .pointer (some ⟨Bx, 0, none⟩), undef, .slice A len cap, .func (.func 40) #[] #[.pointer (some ⟨w.heap.size + 1, 0, none⟩)], .agg #[.int .u8 (x.1 / 256), .int .u8 (x.1 % 256)], undef, undef, undef, undef, undef, undef, undef, undef, undef, undef, undef, undef], defers := [] })
    (fun x a' _ X Y row hs hg hr => by obtain ⟨Bx, e1, e2, e3⟩ := hs; exact ⟨Bx, e1, held_ownFrom () X Y row e2 hg hr, e3⟩) ?assign ?body ?done ?stop
  case own => exact OwnFrom.and (Own.from (holdsRow_own w.heap.size w.heap.size 44 5 1 (fun pre => (bytesOf pre).length) (fun pre => (bytesOf pre).map (Value.int .u8)) (fun pre _ => noNought pre)) _) (ownFrom_below (Nat.le_refl _) (by simp; omega))
  case ownx =>
    exact fun c pre X Y row ⟨h0, k, h1, h2, h3, h4, h5⟩ hg hr => ⟨h0, k, h1, h2, h3, (Own.from (holdsRow_own w.heap.size w.heap.size 44 5 1 (fun _ => k) (fun pre => ((bytesOf pre).take k).map (Value.int .u8)) (fun _ _ => True)) _) pre X Y row h4 hg hr, ownFrom_below (Nat.le_refl _) (by simp; omega) pre X Y row h5 hg hr⟩
  case assign =>
    rintro l pre x W K ⟨⟨v, hv, hrow, hnn⟩, hB⟩ hK
    have hlt := hv.lt
    unfold pairV
    gi_wp2
    exact hK _ _ ((KeepsOthers.alloc _ _).from _) ((Below.refl _ W).alloc hB.size _) ⟨⟨v, hv.alloc _, hrow.alloc _, hnn⟩, hB.alloc hB.size _⟩ ⟨W.heap.size, hlt, Held.new _ _ _, rfl⟩
  case body =>
    rintro l pre x a' W hl ⟨r, hr⟩ ⟨⟨v, hv, hrow, hnn⟩, hB⟩ ⟨Bx, hBx, hX, rfl⟩ hlt
    have hc := hv.cell
    have hsz := hB.size
    have hpl := bytesOf_len pre
    have hll := HL.out
    have hpz : pre.length ≤ 1000000 := by omega
    have HPL := Lib.hid hpl
    have HSN := Lib.hid (bytesOf_snoc pre x)
    have HNN := Lib.hid hnn
    obtain ⟨x, hx0, hx1⟩ := x
    dsimp only at hX HSN ⊢
    clear hpl hnn hll
    gi_wp2
    refine wpIn_region_two (by kernel_rfl) [0, 1, 2, 3] [1, 0, 2, 3] (by kernel_rfl) ?_ ?_
    all_goals
      simp only [opsAt_cons, opsAt_nil, List.getElem?_toArray, List.getElem?_cons_succ, List.getElem?_cons_zero, Option.toList_some, List.cons_append, List.nil_append]
      gi_wp2_with (gi_at_builtin; refine wpListIn_append_own _ rfl _ _ 44 rfl w.heap.size 5 i0 (.int .u8 0) 1 1 Try.underlying44 hi hz0 hz1 hz2 rfl (by decide) _ _ _ rfl hrow.drew ⟨Bx, 0, none⟩ 2 2 [.int .u8 (x / 256), .int .u8 (x % 256)] rfl rfl (World.news_of_block (cs := #[.int .u8 (x / 256), .int .u8 (x % 256)]) (t := 66) (fr := (0, 0)) hX.drew) (by simp [Value.oneCell']) (by rw [HPL.out]; unfold maxLen; omega) (by rw [HPL.out]; omega) (by simp; omega) ?_; intro v' w1 hown' hgrow _; obtain ⟨g', cap', rfl⟩ := ownsRow_succ hown'; obtain ⟨hv1, hv2, hr2, hk2, hb2⟩ := boxed_appended (W := W) (w0 := W.drew) hv (by decide) hrow.drew hsz (Nat.le_refl _) (KeepsOthers.drew _) ((Below.refl _ _).drew) hown' hgrow; have hc1 := hv1.cell; have hf1 := hv1.frozen)
      obtain ⟨L, hLL⟩ : ∃ L, L = bytesOf pre ++ [x / 256, x % 256] := ⟨_, rfl⟩
      have hLin : ∀ y ∈ L, 0 ≤ y ∧ y < 256 := by rw [hLL, ← HSN.out]; exact bytesOf_in _
      have hLn : L.length = (bytesOf pre).length + 1 + 1 := by rw [hLL]; simp
      have hr3 : (w1.setCell ⟨w.heap.size, 0, none⟩ (.slice (some ⟨g', 0, none⟩) ((bytesOf pre).length + 1 + 1) cap')).ownsRow w.heap.size 5 1 (.slice (some ⟨g', 0, none⟩) ((bytesOf pre).length + 1 + 1) cap') ((bytesOf pre).length + 1 + 1) (L.map (Value.int .u8)) := by rw [hLL]; simpa using hr2
      clear hr2
      generalize w1.setCell ⟨w.heap.size, 0, none⟩ (.slice (some ⟨g', 0, none⟩) ((bytesOf pre).length + 1 + 1) cap') = W2 at hv2 hr3 hk2 hb2 ⊢
      obtain ⟨q, hq⟩ : ∃ q, Lib.indexByte (Lib.bytesOf L) 0 = q := ⟨_, rfl⟩
      have hidx := indexb_at g' _ cap' L W2 q hLn (fun i hi => by
        obtain ⟨y, hy, hcy, _⟩ := own_at hr3 (i := i) (by omega)
        simpa [List.getD, hy] using hcy) hq
      refine (CallsIn.inRound _ (callsIn_wide.2 hidx)).mono ?_
      rintro e W3 ⟨rfl, rfl⟩
      have hc3 := hv2.cell
      have hf3 := hv2.frozen
      have hlen2 := own_len hr3
      rcases index_ints L hLin with ⟨h1, h2⟩ | ⟨k, h1, h2, h3, h4⟩
      · obtain rfl : q = -1 := hq.symm.trans h1
        gi_wp2
        exact ⟨hk2.from _, hb2, ⟨⟨_, hv2, by rw [HSN.out, ← hLL]; simpa [hLn] using hr3, by unfold noNought; rw [HSN.out, ← hLL]; exact h2⟩, hB.trans hb2⟩⟩
      · obtain rfl : q = k := hq.symm.trans h1
        have hkn : k < (bytesOf pre).length + 1 + 1 := by omega
        have hcap' : (bytesOf pre).length + 1 + 1 ≤ cap' := by
          rcases hr3.2 with ⟨h, _⟩ | ⟨g4, c4, cur4, hv4, _, _, h4, _⟩
          · cases h
          · cases hv4; exact h4
        have hkc : (k : Int) ≤ (cap' : Int) := by omega
        have hkc2 : k ≤ cap' := by omega
        gi_wp2
        have hrt := own_take hr3 (k := k) (by omega)
        refine ⟨(hk2.trans (KeepsOthers.setCell _ _ _)).from _, rfl, k, by rw [HSN.out, ← hLL]; exact h2, by rw [HSN.out, ← hLL]; exact h4, by rw [HSN.out, ← hLL]; exact h3, ⟨_, hv2.set _, ?_, trivial⟩, (hB.trans hb2).setCell (p := ⟨w.heap.size, 0, none⟩) (Nat.le_refl _) _⟩
        rw [HSN.out, ← hLL, List.map_take]
        exact hrt.kept (grownBy_setCell' _ w.heap.size _) (.inr (hv2.not_row (by decide) hrt).symm)
  case done =>
    rintro D ys W hD rfl ⟨⟨v, hv, hrow, hnn⟩, hB⟩ hK
    have hc := hv.cell
    have hpl := bytesOf_len ys
    have hcv := conv_own hrow
    have hll := HL.out
    have HF := Lib.hid (show (∀ i, i < 2 * len → (bytesOf ys)[i]? ≠ some 0) ∧ (bytesOf ys).take (2 * len) = bytesOf ys from ⟨fun i hi h0 => hnn 0 (List.mem_of_getElem? h0) rfl, List.take_of_length_le (by omega)⟩)
    clear hnn hll hpl
    gi_wp2
    refine ⟨by simp, .inl ⟨_, _, rfl, run_takeDeferred hK, ?_⟩⟩
    exact ⟨_, results_tmp rfl _ _ _, ⟨2 * len, Nat.le_refl _, HF.out.1, Or.inl rfl, by rw [HF.out.2]; rfl⟩, hB.trans (belowK_b (w := w) (Nat.le_refl _) W D _ _ (by simp at hD; omega) hK rfl rfl)⟩
  case stop =>
    rintro D c pre W hD ⟨t, ht⟩ ⟨rfl, k, h1, h2, h3, ⟨v, hv, hrow, _⟩, hB⟩ hK
    have hc := hv.cell
    have hcv := conv_own hrow
    have HF := Lib.hid (show k ≤ 2 * len ∧ (∀ i, i < k → (bytesOf zs)[i]? ≠ some 0) ∧ (bytesOf zs)[k]? = some 0 ∧ (bytesOf zs).take k = (bytesOf pre).take k by
      have hll := HL.out
      have hpl := bytesOf_len zs
      have e : bytesOf zs = bytesOf pre ++ bytesOf t := by rw [← ht, bytesOf_append]
      have hle : (bytesOf pre).length ≤ (bytesOf zs).length := by rw [e, List.length_append]; omega
      refine ⟨by omega, fun i hi => ?_, ?_, ?_⟩
      · rw [e, List.getElem?_append_left (by omega)]; exact h2 i hi
      · rw [e, List.getElem?_append_left h1]; exact h3
      · rw [e, List.take_append_of_le_length (by omega)])
    clear h1 h2 h3 ht
    gi_wp2
    refine ⟨by simp, .inl ⟨_, _, rfl, run_takeDeferred hK, ?_⟩⟩
    exact ⟨_, results_tmp rfl _ _ _, ⟨k, HF.out.1, HF.out.2.1, Or.inr HF.out.2.2.1, by rw [HF.out.2.2.2]; rfl⟩, hB.trans (belowK_b (w := w) (Nat.le_refl _) W D _ _ (by simp at hD; omega) hK rfl rfl)⟩
end Go.Proofs.Ytnglajpmkjgbaaa
