/- pdu.Unpack. -/
import Derived.Test.YtflbiichdjhaeaaDoorPduBits
import Derived.Shelf.Abstract
namespace Go.Proofs.YtflbiichdjhaeaaDoor
open Go.RowKit Go.Shelf
attribute [local go_sem] Oper.semAt_some

theorem infoBool : (Tryd.prog.info? 4).map (fun i => (i.zero, i.size, i.bytes)) = some (some (.bool false), 1, 1) := by kernel_rfl
theorem unpackP_snoc (b : List Int) (k : Nat) : unpackP b (k + 1) = unpackP b k ++ [bitAt b k] := by simp [unpackP, List.range_succ]
theorem unpackP_zero (b : List Int) : unpackP b 0 = [] := rfl

/-- What Unpack answers. -/
def unpackV (b : List Int) (n : Int) : List Bool := if 100000 < n then [] else unpackP b n.toNat

/-- What a round finds: the list so far in its box. -/
def UnI (w : World) (A : Option Addr) (nb cb : Nat) (b : List Int) (N : Nat) (n : Int) (k : Nat) (W : World) : Prop :=
  (∃ v, Boxed W (w.heap.size + 1) 22 v ∧ W.ownsRow (w.heap.size + 3) 4 1 v k ((unpackP b k).map Value.bool) ∧ k ≤ N) ∧ (Held W w.heap.size 3 #[.int .i64 n] ∧ Held W (w.heap.size + 2) 28 #[.slice A nb cb]) ∧ Below w.heap.size w W
theorem UnI.own {w : World} {A : Option Addr} {nb cb : Nat} {b : List Int} {N : Nat} {n : Int} (B : Nat) (hB : w.heap.size ≤ B) : OwnFrom B (UnI w A nb cb b N n) :=
  OwnFrom.and (Own.from (holdsRow_own (w.heap.size + 3) (w.heap.size + 1) 22 4 1 (fun k => k) (fun k => (unpackP b k).map Value.bool) (fun k _ => k ≤ N)) _) (OwnFrom.and (OwnFrom.and held_ownFrom held_ownFrom) (ownFrom_below (Nat.le_refl _) hB))

/-- An append to a box's row, the row owned from behind the boxes. -/
theorem boxed_appended_kx {W w0 w1 : World} {n₁ B : Nat} {t e : TypeId} {size : Nat} {v v' : Value} {k m : Nat} {xs ys : List Value}
    (hv : Boxed w0 B t v) (hte : t ≠ e) (hrow : w0.ownsRow n₁ e size v k xs) (hn₁ : n₁ ≤ w0.heap.size) (hB : B < n₁) (h0 : KeepsOthers W w0) (hb0 : Below n₁ W w0)
    (hown' : w1.ownsRow n₁ e size v' m ys) (hgrow : w0.grownBy w1 v.ownBlock) :
    Boxed w1 B t v ∧ Boxed (w1.setCell ⟨B, 0, none⟩ v') B t v' ∧ (w1.setCell ⟨B, 0, none⟩ v').ownsRow n₁ e size v' m ys ∧ KeepsOthers W (w1.setCell ⟨B, 0, none⟩ v') ∧ Kx B n₁ W (w1.setCell ⟨B, 0, none⟩ v') := by
  have hv1 : Boxed w1 B t v := hv.kept hgrow (hv.not_row hte hrow)
  refine ⟨hv1, hv1.set v', hown'.kept (grownBy_setCell' w1 B v') (.inr (hv1.not_row hte hown').symm), ?_, ?_⟩
  · refine (h0.trans (KeepsOthers.of_grownBy hgrow fun j o ej hj => ?_)).trans (KeepsOthers.setCell _ _ _)
    rcases hrow.2 with ⟨rfl, _⟩ | ⟨g, cap, cur, rfl, _, hgb, _⟩
    · simp [Value.ownBlock] at ej
    · obtain rfl : g = j := by simpa [Value.ownBlock] using ej
      rw [hgb] at hj; cases hj; rfl
  · refine (Kx.of_below (hb0.grown hgrow hn₁ fun j ej => ?_) (by omega)).set 0 v'
    rcases hrow.2 with ⟨rfl, _⟩ | ⟨g, cap, cur, rfl, hb, _, _⟩
    · simp [Value.ownBlock] at ej
    · obtain rfl : g = j := by simpa [Value.ownBlock] using ej
      exact hb

set_option maxRecDepth 100000 in
set_option maxHeartbeats 4000000 in
theorem unpack_in (A : Option Addr) (nb cb : Nat) (b : List Int) (hb : b.length = nb) (hbs : ∀ x ∈ b, 0 ≤ x ∧ x < 256) (n : Int) (w : World) (hR : RdI w w.heap.size .u8 A b) :
    CallsIn Fence.wide 5 Tryd.prog 36 #[.slice A nb cb, .int .i64 n] w fun e W' => (∃ A' m c', e = .returned (.slice A' m c') ∧ SlB W' W'.heap.size A' m c' (unpackV b n)) ∧ Below w.heap.size w W' := by
  have h2F : Fence.wide.fn 51 := trivial
  have h3F : Fence.wide.fn 61 := trivial
  have hro : Fence.wide.round = none := rfl
  have HR := Lib.hid hR
  have HB := Lib.hid hb
  clear hR hb
  obtain ⟨i0, hi, hz0, hz1, hz2⟩ := info_parts infoBool
  refine callsIn_of_wp_marks Tryd.func36 rfl trivial ?_ rfl
  simp only [Tryd.ntmps36, List.size_toArray, List.length_cons, List.length_nil, Nat.reduceAdd, Nat.reduceSub, Array.replicate_succ, Array.replicate_zero, List.push_toArray, List.append_toArray, List.nil_append, List.cons_append]
  by_cases hbig : 100000 < n
  · gi_wp2
    refine wpIn_scope ?_
    gi_wp2
    refine ⟨_, results_tmp rfl _ _ _, ?_⟩
    refine ⟨⟨none, 0, 0, rfl, ?_⟩, (Below.refl _ w).alloc (Nat.le_refl _) _⟩
    unfold unpackV
    rw [if_pos hbig]
    exact SlB.nil _ _
  · gi_wp2
    refine wpIn_scope ?_
    gi_wp2
    refine wpIn_label ?_
    gi_wp2_with (gi_at_call 51; refine (bits_in Fence.wide 4 h2F hro A nb cb _).mono ?_; rintro e w' ⟨rfl, rfl⟩)
    obtain ⟨W0, hW0⟩ : ∃ W0, ((w.alloc (.cells #[.int .i64 n] 3)).alloc (.cells #[.slice none 0 0] 22)).alloc (.cells #[.slice A nb cb] 28) = W0 := ⟨_, rfl⟩
    rw [hW0]
    have hS0 : W0.heap.size = w.heap.size + 3 := by rw [← hW0]; simp
    have bN : Boxed W0 w.heap.size 3 (.int .i64 n) := by rw [← hW0]; exact ((Boxed.new w _ _).alloc _).alloc _
    have bO : Boxed W0 (w.heap.size + 1) 22 (.slice none 0 0) := by rw [← hW0]; have := Boxed.new (w.alloc (.cells #[.int .i64 n] 3)) 22 (.slice none 0 0); rw [World.size_alloc] at this; exact this.alloc _
    have bB : Boxed W0 (w.heap.size + 2) 28 (.slice A nb cb) := by rw [← hW0]; have := Boxed.new ((w.alloc (.cells #[.int .i64 n] 3)).alloc (.cells #[.slice none 0 0] 22)) 28 (.slice A nb cb); simpa using this
    have hB0 : Below w.heap.size w W0 := by rw [← hW0]; exact ((((Below.refl _ w).alloc (Nat.le_refl _) _).alloc (by simp) _).alloc (by simp; omega) _)
    clear hW0
    refine wpIn_range_w hro (by omega) (gf := 61) (lb := #[.pointer (some ⟨w.heap.size + 2, 0, none⟩)]) rfl h3F (enters_of Tryd.func61 (by kernel_rfl) rfl)
      (bits_seq Fence.wide 4 h3F hro (by omega) (w.heap.size + 2) (w.heap.size + 1) (w.heap.size + 3) n.toNat A nb cb b HB.out hbs (by omega) W0 (by omega) (by omega) (by omega) (by omega) bB.cell ((HR.out.below hB0).more (by omega)))
      (fun h k => h.trans k) (fun W l o o' hl h1 h2 h3 => ⟨belowK_b (w := W0) (by omega) W l o o' hl h1 h2 h3, fun j _ hj => World.putObj_heap_other (by omega)⟩)
      (fun _ _ h => h.elim) (fun _ => rfl)
      (UnI w A nb cb b n.toNat n)
      (fun c k W => c = .exit 0 ∧ ∃ m, k = m + 1 ∧ m = n.toNat ∧ UnI w A nb cb b n.toNat n m W)
      ?own ?ownx (fun _ _ _ h => h.elim) (fun _ _ _ _ h => h.elim) (fun _ _ h => by obtain ⟨⟨_, _, _, h⟩, _⟩ := h; exact h)
      ⟨⟨_, bO, World.ownsRow_nil _ _ _ _, by omega⟩, ⟨bN, bB⟩, hB0⟩
      (fun k => { tmps := #[.slice A nb cb, .int .i64 n, undef, .pointer (some ⟨w.heap.size, 0, none⟩), .slice none 0 0, .pointer (some ⟨w.heap.size + 1, 0, none⟩), .int .i64 k, .bool (bitAt b k), .int .i64 n, .bool (decide (100000 < n)), .slice A nb cb,
        .func (.func 61) #[] #[.pointer (some ⟨w.heap.size + 2, 0, none⟩)], .int .i64 k, .bool (bitAt b k), undef, undef, undef, undef, undef, undef, undef, undef], defers := [] })
      ?assign ?body ?done ?stop
    case own => exact UnI.own _ (by omega)
    case ownx =>
      exact fun c k X Y row ⟨h0, m, h1, h2, h3⟩ hg hr => ⟨h0, m, h1, h2, UnI.own (w := w) _ (by omega) m X Y row h3 hg hr⟩
    case assign =>
      intro l k W K hK
      unfold bitV
      gi_wp2
      exact hK
    case body =>
      intro l k W hl hr hT hI
      obtain ⟨⟨v, hv, hrow, hkN⟩, ⟨hbN, hbB⟩, hB⟩ := hI
      have hcN : W.cell? ⟨w.heap.size, 0, none⟩ = some (.int .i64 n) := hbN.cell 0
      have hcv := hv.cell
      have hsz : w.heap.size + 3 ≤ W.heap.size := hbB.lt
      have HSN := Lib.hid (unpackP_snoc b k)
      by_cases hlt : k < n.toNat
      · gi_wp2_with (gi_at_builtin; refine wpListIn_append_own _ rfl _ _ 22 rfl (w.heap.size + 3) 4 i0 (.bool false) 1 1 Tryd.underlying22 hi hz0 hz1 hz2 rfl (by decide) _ _ _ rfl (hrow.alloc _) ⟨W.heap.size, 0, none⟩ 1 1 [.bool (bitAt b k)] rfl rfl (World.news_of_block (cs := #[.bool (bitAt b k)]) (t := 4) (fr := (0, 0)) (heap_alloc_new W _)) (by simp [Value.oneCell']) (by unfold maxLen; omega) (by omega) (by simp; omega) ?_; intro v' w1 hown' hgrow _; obtain ⟨g', cap', rfl⟩ := ownsRow_succ hown'; obtain ⟨hv1, hv2, hr2, hk2, hx2⟩ := boxed_appended_kx (W := W) (w0 := W.alloc _) (hv.alloc _) (by decide) (hrow.alloc _) (by simp; omega) (by omega) (KeepsOthers.alloc _ _) ((Below.refl _ _).alloc hsz _) hown' hgrow; have hc1 := hv1.cell; have hf1 := hv1.frozen)
        refine ⟨hk2.from _, hx2, ⟨_, hv2, ?_, by omega⟩, ⟨(hx2.2 _ (by omega) (by omega)).trans hbN, (hx2.2 _ (by omega) (by omega)).trans hbB⟩, hB.trans (hx2.1.mono (by omega))⟩
        rw [HSN.out, List.map_append]
        exact hr2
      · gi_wp2
        exact ⟨KeepsFrom.refl _ _, rfl, k, rfl, by omega, ⟨_, hv, hrow, hkN⟩, ⟨hbN, hbB⟩, hB⟩
    case done => exact fun D k W _ h _ _ => h.elim
    case stop =>
      intro D c k W hD _ hI hK
      obtain ⟨rfl, m, rfl, rfl, hI2⟩ := hI
      obtain ⟨⟨v, hv, _⟩, _⟩ := id hI2
      have hcv := hv.cell
      have hvc : (W.putObj D (.deferred none)).cell? ⟨w.heap.size + 1, 0, none⟩ = some v := (World.cell?_of_block (World.putObj_heap_other (by simp; omega))).trans hcv
      gi_wp2
      refine ⟨by simp, .inl ⟨_, _, rfl, run_takeDeferred hK, ?_⟩⟩
      obtain ⟨⟨v', hv', hrow', _⟩, _, hB'⟩ := (UnI.own (w := w) W0.heap.size (by omega)).putObj (.deferred none) hI2 hD hK rfl
      obtain rfl : v' = v := by have := hv'.cell; rw [hvc] at this; injection this with this; exact this.symm
      obtain ⟨A', c', rfl, hs⟩ := SlB.of_own hrow'
      refine ⟨_, results_tmp rfl _ _ _, ⟨A', _, c', rfl, ?_⟩, hB'⟩
      unfold unpackV
      rw [if_neg (by omega)]
      exact hs
end Go.Proofs.YtflbiichdjhaeaaDoor
