/- pdu.words. -/
import Derived.Test.YtcipleanckeoaaaDoorYPduBase
import Derived.Test.YtcipleanckeoaaaDoorYPduFrom
import Derived.Lib.QuoteBits
set_option maxRecDepth 100000
set_option maxHeartbeats 40000000
namespace Go.Proofs.YtcipleanckeoaaaDoor
open Go.RowKit Go.Shelf
attribute [local go_sem] Oper.semAt_some
theorem infoI : (Tryd.prog.info? 3).map (fun i => (i.zero, i.size, i.bytes)) = some (some (.int .i64 0), 1, 8) := by kernel_rfl
theorem i64_or_nat (a b : Nat) (ha : a < 2 ^ 20) (hb : b < 2 ^ 20) : bits .or .i64 (a : Int) (b : Int) = ((a ||| b : Nat) : Int) := by
 show IntKind.i64.wrap ((BitVec.ofInt 64 (a : Int) ||| BitVec.ofInt 64 (b : Int)).toNat : Int) = _
 have h := Nat.or_lt_two_pow ha hb
 rw [BitVec.toNat_or, ofInt_u64 a (by omega), ofInt_u64 b (by omega)]
 exact Lib.wrap_i64_small _ (by omega)
theorem or_int (a b : Int) (ha : 0 ≤ a) (ha' : a < 256) (hb : 0 ≤ b) (hb' : b < 256) : bits BinOp.or IntKind.i64 (a * 256) b = a * 256 + b := by
 obtain ⟨a, rfl⟩ := Int.eq_ofNat_of_zero_le ha
 obtain ⟨b, rfl⟩ := Int.eq_ofNat_of_zero_le hb
 have e : (a : Int) * 256 = ((a * 256 : Nat) : Int) := by omega
 rw [e, i64_or_nat _ _ (by omega) (by omega), nat_join 8 _ _ (by omega) (by omega)]
 omega
def frameW (A : Option Addr) (full len cap m n₀ : Nat) (x : Option Addr) : Act := { tmps := #[.slice A full cap, undef, .slice none 0 0, .pointer (some ⟨n₀, 0, none⟩), .slice x 2 2, .slice A full cap, .slice A full cap, .int .i64 full, .int .i64 m, .int .i64 len, .slice A len cap, .func (.func 137) #[] #[.pointer (some ⟨n₀ + 1, 0, none⟩), .pointer (some ⟨n₀ + 2, 0, none⟩)], .slice x 2 2, undef, undef, undef, undef, undef, undef, undef, undef, undef, undef, undef, undef, undef, undef], defers := [] }
theorem pwords_in (A : Option Addr) (full len cap m : Nat) (xs : List Int) (hreach : full ≤ 1000000) (hfull : len ≤ full) (hfull2 : full ≤ len + 1) (hm : len = 2 * m) (hcapF : full ≤ cap) (hl : xs.length = len) (hx : ∀ x ∈ xs, 0 ≤ x ∧ x < 256) (w : World) (hR : RdI w w.heap.size .u8 A xs) :
  CallsIn Fence.wide 5 Tryd.prog 142 #[.slice A full cap] w fun e W' => ∃ v, e = .returned v ∧ W'.ownsRow w.heap.size 3 1 v m ((wordsK xs (List.finRange m)).map (Value.int .i64)) ∧ Below w.heap.size w W' := by
 have hA : 0 < len → ∃ g off, A = some ⟨g, off, none⟩ := fun h => by
  obtain ⟨g, off, x, hg, _⟩ := hR.at_ (i := 0) (by omega)
  exact ⟨g, off, hg⟩
 have HR := Lib.hid hR
 have HL := Lib.hid hl
 have HM := Lib.hid hm
 have HXX := Lib.hid hx
 have hcap : len ≤ cap := by omega
 have hr0 : len ≤ 1000000 := by omega
 have hq1 : (full : Int).tdiv 2 = (m : Int) := by rw [Int.tdiv_eq_ediv_of_nonneg (by omega)]; omega
 have hq2 : (full : Int) / 2 = (m : Int) := by omega
 have hq3 : IntKind.i64.wrap (m : Int) = (m : Int) := IntWalk.i64_in _ (by omega)
 have hq4 : IntKind.i64.wrap ((m : Int) * 2) = (len : Int) := by rw [IntWalk.i64_in _ (by omega)]; omega
 have hq5 : ((len : Int) < 0) = False := by simp
 have hq6 : (len : Int).toNat = len := by omega
 have h2F : Fence.wide.fn 106 := trivial
 have h3F : Fence.wide.fn 137 := trivial
 have hro : Fence.wide.round = none := rfl
 clear hR hl hm hx
 obtain ⟨i0, hi, hz0, hz1, hz2⟩ := info_parts infoI
 refine callsIn_of_wp_marks Tryd.func142 rfl trivial ?_ rfl
 simp only [Tryd.ntmps142, List.size_toArray, List.length_cons, List.length_nil, Nat.reduceAdd, Nat.reduceSub, Array.replicate_succ, Array.replicate_zero, List.push_toArray, List.append_toArray, List.nil_append, List.cons_append]
 gi_wp2_with (gi_at_call 106; refine (chunk_in Fence.wide 4 trivial rfl _ len cap _).mono ?_; rintro e w' ⟨rfl, rfl⟩)
 have bO := Boxed.new w 82 (.slice none 0 0)
 have hs1 : (w.alloc (.cells #[.slice none 0 0] 82)).heap.size = w.heap.size + 1 := World.size_alloc _ _
 have bS := Boxed.new (w.alloc (.cells #[.slice none 0 0] 82)) 22 (.slice A len cap)
 rw [hs1] at bS
 have bN := Boxed.new ((w.alloc (.cells #[.slice none 0 0] 82)).alloc (.cells #[.slice A len cap] 22)) 3 (.int .i64 2)
 rw [World.size_alloc, hs1] at bN
 have hB0 : Below w.heap.size w (((w.alloc (.cells #[.slice none 0 0] 82)).alloc (.cells #[.slice A len cap] 22)).alloc (.cells #[.int .i64 2] 3)) := (((Below.refl _ w).alloc (Nat.le_refl _) _).alloc (by simp) _).alloc (by simp; omega) _
 refine wpIn_rangeFunc_ownH hro (by omega) (gf := 137) (lb := #[.pointer (some ⟨w.heap.size + 1, 0, none⟩), .pointer (some ⟨w.heap.size + 2, 0, none⟩)]) rfl h3F (enters_of Tryd.func137 (by kernel_rfl) rfl)
  (chunk_stops Fence.wide 4 h3F hro (by omega) (w.heap.size + 1) (w.heap.size + 2) w.heap.size A len cap m (w.heap.size + 3) hA hr0 HM.out hcap _ (by omega) (by omega) (by omega) (by omega) (by simp) (bS.alloc _).cell bN.cell) Kx.trans (fun W l o o' hl ho h1 h2 => Kx.of_below (belowK_b (w := (((w.alloc (.cells #[.slice none 0 0] 82)).alloc (.cells #[.slice A len cap] 22)).alloc (.cells #[.int .i64 2] 3))) (by simp) W l o o' hl ho h1 h2) (by omega)) (Below.refl _ _) (fun _ => rfl)
  (fun pre W => (∃ v, Boxed W w.heap.size 82 v ∧ W.ownsRow (w.heap.size + 3) 3 1 v (wordsK (m := m) xs pre).length ((wordsK xs pre).map (Value.int .i64)) ∧ True) ∧ Below w.heap.size w W)
  (fun _ _ _ => False)
  ?own (fun _ _ _ _ _ hs _ _ => hs)
  ⟨⟨_, (bO.alloc _).alloc _, World.ownsRow_nil _ _ _ _, trivial⟩, hB0⟩
  (fun x a' _ => a' = frameW A full len cap m w.heap.size (A.map fun a => ⟨a.block, a.off + 2 * x.1, none⟩))
  (fun x a' _ X Y row hs hg hr => hs) ?assign ?body ?done ?stop
 case own => exact OwnFrom.and (Own.from (holdsRow_own (w.heap.size + 3) w.heap.size 82 3 1 (fun pre => (wordsK (m := m) xs pre).length) (fun pre => (wordsK xs pre).map (Value.int .i64)) (fun _ _ => True)) _) (ownFrom_below (Nat.le_refl _) (by simp; omega))
 case assign =>
  rintro l pre x W K ⟨⟨v, hv, hrow, _⟩, hB⟩ hK
  unfold pieceV
  gi_wp2
  exact hK _ _ ((KeepsOthers.refl _).from _) (Kx.refl _ _ _) ⟨⟨v, hv, hrow, trivial⟩, hB⟩ rfl
 case body =>
  rintro l pre x a' W hl ⟨r, hr⟩ ⟨⟨v, hv, hrow, _⟩, hB⟩ rfl hlt
  obtain ⟨k, hk⟩ := x
  have hlen := HM.out
  have hxl := HL.out
  obtain ⟨g, off, y1, rfl, hgb, hy1, hc1⟩ := (HR.out.below hB).at_ (i := 2 * k) (by omega)
  obtain ⟨g', off', y2, hg', _, hy2, hc2⟩ := (HR.out.below hB).at_ (i := 2 * k + 1) (by omega)
  injection hg' with hg'; injection hg' with hg' ho'; subst hg'; subst ho'
  obtain ⟨b1, b2⟩ := HXX.out y1 (List.mem_of_getElem? hy1)
  obtain ⟨b3, b4⟩ := HXX.out y2 (List.mem_of_getElem? hy2)
  have hW : wordK xs (⟨k, hk⟩ : Fin m) = y1 * 256 + y2 := by simp [wordK, List.getD, hy1, hy2]
  have hor := or_int y1 y2 b1 b2 b3 b4
  have w1 : IntKind.i64.wrap y1 = y1 := IntWalk.i64_in _ (by omega)
  have w2 : IntKind.i64.wrap y2 = y2 := IntWalk.i64_in _ (by omega)
  have w3 : IntKind.i64.wrap (y1 * 256) = y1 * 256 := IntWalk.i64_in _ (by omega)
  have HW := Lib.hid hW
  have hco := hv.cell
  have hSW : SB g (off + 2 * k) y1 y2 W.drew := ⟨hc1, hc2⟩
  have hsz := hB.size
  have hgW : g < W.heap.size := by omega
  have hmm : m ≤ 1000000 := by omega
  have hW3 : w.heap.size + 3 ≤ W.heap.size := by
   have := (Array.getElem?_eq_some_iff.1 hr).1
   simp at hl
   omega
  have hwl : (wordsK xs pre).length = pre.length := by simp [wordsK]
  clear hW hy1 hy2 hc1 hc2 hlen hxl
  unfold frameW
  simp only [Option.map]
  gi_wp2
  refine round_region_held (SB g (off + 2 * k) y1 y2) (by kernel_rfl) (by kernel_rfl) (ownPostG_notOut _) ?_
  refine wpAnyH_take (i := 1) (v := ?v1) rfl (by kernel_rfl) (by kernel_rfl) (by kernel_rfl) (fun _ _ _ h => h) (Or.inl ⟨by rfl, ?y1⟩) (by assumption) ?r1
  case y1 =>
   rintro w ⟨hc1, hc2⟩
   go_simp
   with_reducible rfl
  simp only [Act.put]
  refine wpAnyH_take (i := 2) (v := ?v2) rfl (by kernel_rfl) (by kernel_rfl) (by kernel_rfl) (fun _ _ _ h => h) (Or.inl ⟨by rfl, ?y2⟩) (by assumption) ?r2
  case y2 =>
   rintro w ⟨hc1, hc2⟩
   go_simp
   with_reducible rfl
  simp only [Act.put]
  refine wpAnyH_take (i := 3) (v := ?v3) rfl (by kernel_rfl) (by kernel_rfl) (by kernel_rfl) (fun _ _ _ h => h) (Or.inl ⟨by rfl, ?y3⟩) (by assumption) ?r3
  case y3 =>
   rintro w ⟨hc1, hc2⟩
   go_simp
   with_reducible rfl
  simp only [Act.put]
  refine wpAnyH_take (i := 4) (v := ?v4) rfl (by kernel_rfl) (by kernel_rfl) (by kernel_rfl) (fun _ _ _ h => h) (Or.inl ⟨by rfl, ?y4⟩) (by assumption) ?r4
  case y4 =>
   rintro w ⟨hc1, hc2⟩
   go_simp
   with_reducible rfl
  simp only [Act.put]
  refine wpAnyH_take (i := 5) (v := ?v5) rfl (by kernel_rfl) (by kernel_rfl) (by kernel_rfl) (fun _ _ _ h => h) (Or.inl ⟨by rfl, ?y5⟩) (by assumption) ?r5
  case y5 =>
   rintro w ⟨hc1, hc2⟩
   go_simp
   with_reducible rfl
  simp only [Act.put]
  refine wpAnyH_take (i := 6) (v := ?v6) rfl (by kernel_rfl) (by kernel_rfl) (by kernel_rfl) (fun _ _ _ h => h) (Or.inl ⟨by rfl, ?y6⟩) (by assumption) ?r6
  case y6 =>
   rintro w ⟨hc1, hc2⟩
   go_simp
   with_reducible rfl
  simp only [Act.put]
  refine wpAnyH_take (i := 7) (v := ?v7) rfl (by kernel_rfl) (by kernel_rfl) (by kernel_rfl) (fun _ _ _ h => h) (Or.inl ⟨by rfl, ?y7⟩) (by assumption) ?r7
  case y7 =>
   rintro w ⟨hc1, hc2⟩
   go_simp
   with_reducible rfl
  simp only [Act.put]
  refine wpAnyH_take (i := 8) (v := ?v8) rfl (by kernel_rfl) (by kernel_rfl) (by kernel_rfl) (fun _ _ _ h => h) (Or.inl ⟨by rfl, ?y8⟩) (by assumption) ?r8
  case y8 =>
   rintro w ⟨hc1, hc2⟩
   go_simp
   with_reducible rfl
  simp only [Act.put]
  refine wpAnyH_take (i := 9) (v := ?v9) rfl (by kernel_rfl) (by kernel_rfl) (by kernel_rfl) (fun _ _ _ h => h) (Or.inl ⟨by rfl, ?y9⟩) (by assumption) ?r9
  case y9 =>
   rintro w ⟨hc1, hc2⟩
   go_simp
   with_reducible rfl
  simp only [Act.put]
  refine wpAnyH_take (i := 10) (v := ?v10) rfl (by kernel_rfl) (by kernel_rfl) (by kernel_rfl) (fun _ _ _ h => h) (Or.inl ⟨by rfl, ?y10⟩) (by assumption) ?r10
  case y10 =>
   rintro w ⟨hc1, hc2⟩
   go_simp
   with_reducible rfl
  simp only [Act.put]
  refine wpAnyH_ready (rs := [0, 11]) (by kernel_rfl) (by simp) ?_
  refine AllReadyH.cons rfl (fun K hK => ?_) (AllReadyH.cons rfl (fun K hK => ?_) AllReadyH.nil)
  ·go_simp
   refine hK.out _ _ hSW (fun hSL => ?_)
   clear hK K
   refine wpAnyH_ready (rs := [11]) (by kernel_rfl) (by simp) ?_
   refine AllReadyH.cons rfl (fun K hK => ?_) AllReadyH.nil
   go_simp
   refine hK.out _ _ (hSW.alloc hgW _) (fun hSL => ?_)
   clear hK K
   refine wpAnyH_ready (rs := [12]) (by kernel_rfl) (by simp) ?_
   refine AllReadyH.cons rfl (fun K hK => ?_) AllReadyH.nil
   refine step_append_lies _ (by rfl) _ _ _ (by rfl) (w.heap.size + 3) 3 i0 (.int .i64 0) 1 8 Tryd.underlying82 hi hz0 hz1 hz2 rfl (by decide) v (wordsK xs pre).length _ (by rfl) ((hrow.alloc _).drew)
    ⟨W.heap.size, 0, none⟩ 1 1 [.int .i64 (y1 * 256 + y2)] (by rfl) (by rfl) (World.news_of_block (cs := #[.int .i64 (y1 * 256 + y2)]) (t := 3) (fr := (0, 0)) (heap_alloc_new W _)) (by simp [Value.oneCell'])
    (by omega) (by unfold maxLen; omega) (by omega) (by simp; omega) (W.heap.size + 1) (by simp) ?_
   intro gg cc w1 hown' hgrow hat hlt2
   have hB1 : Below (w.heap.size + 3) W w1 := (((Below.refl _ W).alloc hW3 _).drew).grown hgrow (by simp; omega) (fun k hk => (hrow.lt k hk).1)
   have hv0 : Boxed (W.alloc (.cells #[.int .i64 (y1 * 256 + y2)] 3)).drew w.heap.size 82 v := hv.alloc _
   have hv1 : Boxed w1 w.heap.size 82 v := hv0.kept hgrow (hv0.not_row (by decide) ((hrow.alloc _).drew))
   have hr2 := hown'.kept (grownBy_setCell' w1 w.heap.size (.slice (some ⟨gg, 0, none⟩) ((wordsK xs pre).length + 1) cc)) (.inr (hv1.not_row (by decide) hown').symm)
   have hv2 := hv1.set (.slice (some ⟨gg, 0, none⟩) ((wordsK xs pre).length + 1) cc)
   have hk2 : KeepsOthers W w1 := ((KeepsOthers.alloc _ _).trans (KeepsOthers.drew _)).trans (KeepsOthers.of_grownBy hgrow fun j o ej hj => by
    rcases hrow.2 with ⟨rfl, _⟩ | ⟨g4, cap4, cur4, rfl, _, hgb4, _⟩
    ·simp [Value.ownBlock] at ej
    ·obtain rfl : g4 = j := by simpa [Value.ownBlock] using ej
     have h5 := (Lib.alloc_old W (.cells #[.int .i64 (y1 * 256 + y2)] 3) g4 (Array.getElem?_eq_some_iff.1 hgb4).1).trans hgb4
     have h6 : (W.alloc (.cells #[.int .i64 (y1 * 256 + y2)] 3)).heap[g4]? = some o := hj
     rw [h5] at h6; cases h6; rfl)
   have hc1 := hv1.cell
   have hf1 := hv1.frozen
   refine hK.out _ _ ⟨(hB1.cell (p := ⟨g, off + 2 * k, none⟩) (by show g < _; omega)).trans hSW.1, (hB1.cell (p := ⟨g, off + 2 * k + 1, none⟩) (by show g < _; omega)).trans hSW.2⟩ (fun hSL => ?_)
   clear hK K
   refine wpAnyH_ready (rs := [13]) (by kernel_rfl) (by simp) ?_
   refine AllReadyH.cons rfl (fun K hK => ?_) AllReadyH.nil
   go_simp
   have hKx := (Kx.of_below (n₀ := w.heap.size) hB1 (by omega)).set 0 (.slice (some ⟨gg, 0, none⟩) ((wordsK xs pre).length + 1) cc)
   rw [hwl] at hKx hv2 hr2
   refine hK.out _ _ ⟨(hKx.cell (p := ⟨g, off + 2 * k, none⟩) (by show g ≠ _; omega) (by show g < _; omega)).trans hSW.1, (hKx.cell (p := ⟨g, off + 2 * k + 1, none⟩) (by show g ≠ _; omega) (by show g < _; omega)).trans hSW.2⟩ (fun hSL => ?_)
   clear hK K
   refine wpAnyH_done (by kernel_rfl) ?_ _
   refine ⟨(hk2.trans (KeepsOthers.setCell _ _ _)).from _, hKx, ⟨_, hv2, ?_, trivial⟩, hB.trans hKx.1⟩
   have e1 : wordsK xs (pre ++ [(⟨k, hk⟩ : Fin m)]) = wordsK xs pre ++ [y1 * 256 + y2] := by rw [← HW.out]; simp [wordsK]
   rw [e1]
   simpa [hwl] using hr2
  ·go_simp
   refine hK.out _ _ (hSW.alloc hgW _) (fun hSL => ?_)
   clear hK K
   have hco2 := (hv.alloc (.cells #[.int .i64 (y1 * 256 + y2)] 3)).cell
   refine wpAnyH_ready (rs := [0]) (by kernel_rfl) (by simp) ?_
   refine AllReadyH.cons rfl (fun K hK => ?_) AllReadyH.nil
   go_simp
   refine hK.out _ _ (hSW.alloc hgW _) (fun hSL => ?_)
   clear hK K
   refine wpAnyH_ready (rs := [12]) (by kernel_rfl) (by simp) ?_
   refine AllReadyH.cons rfl (fun K hK => ?_) AllReadyH.nil
   refine step_append_lies _ (by rfl) _ _ _ (by rfl) (w.heap.size + 3) 3 i0 (.int .i64 0) 1 8 Tryd.underlying82 hi hz0 hz1 hz2 rfl (by decide) v (wordsK xs pre).length _ (by rfl) ((hrow.alloc _).drew)
    ⟨W.heap.size, 0, none⟩ 1 1 [.int .i64 (y1 * 256 + y2)] (by rfl) (by rfl) (World.news_of_block (cs := #[.int .i64 (y1 * 256 + y2)]) (t := 3) (fr := (0, 0)) (heap_alloc_new W _)) (by simp [Value.oneCell'])
    (by omega) (by unfold maxLen; omega) (by omega) (by simp; omega) (W.heap.size + 1) (by simp) ?_
   intro gg cc w1 hown' hgrow hat hlt2
   have hB1 : Below (w.heap.size + 3) W w1 := (((Below.refl _ W).alloc hW3 _).drew).grown hgrow (by simp; omega) (fun k hk => (hrow.lt k hk).1)
   have hv0 : Boxed (W.alloc (.cells #[.int .i64 (y1 * 256 + y2)] 3)).drew w.heap.size 82 v := hv.alloc _
   have hv1 : Boxed w1 w.heap.size 82 v := hv0.kept hgrow (hv0.not_row (by decide) ((hrow.alloc _).drew))
   have hr2 := hown'.kept (grownBy_setCell' w1 w.heap.size (.slice (some ⟨gg, 0, none⟩) ((wordsK xs pre).length + 1) cc)) (.inr (hv1.not_row (by decide) hown').symm)
   have hv2 := hv1.set (.slice (some ⟨gg, 0, none⟩) ((wordsK xs pre).length + 1) cc)
   have hk2 : KeepsOthers W w1 := ((KeepsOthers.alloc _ _).trans (KeepsOthers.drew _)).trans (KeepsOthers.of_grownBy hgrow fun j o ej hj => by
    rcases hrow.2 with ⟨rfl, _⟩ | ⟨g4, cap4, cur4, rfl, _, hgb4, _⟩
    ·simp [Value.ownBlock] at ej
    ·obtain rfl : g4 = j := by simpa [Value.ownBlock] using ej
     have h5 := (Lib.alloc_old W (.cells #[.int .i64 (y1 * 256 + y2)] 3) g4 (Array.getElem?_eq_some_iff.1 hgb4).1).trans hgb4
     have h6 : (W.alloc (.cells #[.int .i64 (y1 * 256 + y2)] 3)).heap[g4]? = some o := hj
     rw [h5] at h6; cases h6; rfl)
   have hc1 := hv1.cell
   have hf1 := hv1.frozen
   refine hK.out _ _ ⟨(hB1.cell (p := ⟨g, off + 2 * k, none⟩) (by show g < _; omega)).trans hSW.1, (hB1.cell (p := ⟨g, off + 2 * k + 1, none⟩) (by show g < _; omega)).trans hSW.2⟩ (fun hSL => ?_)
   clear hK K
   refine wpAnyH_ready (rs := [13]) (by kernel_rfl) (by simp) ?_
   refine AllReadyH.cons rfl (fun K hK => ?_) AllReadyH.nil
   go_simp
   have hKx := (Kx.of_below (n₀ := w.heap.size) hB1 (by omega)).set 0 (.slice (some ⟨gg, 0, none⟩) ((wordsK xs pre).length + 1) cc)
   rw [hwl] at hKx hv2 hr2
   refine hK.out _ _ ⟨(hKx.cell (p := ⟨g, off + 2 * k, none⟩) (by show g ≠ _; omega) (by show g < _; omega)).trans hSW.1, (hKx.cell (p := ⟨g, off + 2 * k + 1, none⟩) (by show g ≠ _; omega) (by show g < _; omega)).trans hSW.2⟩ (fun hSL => ?_)
   clear hK K
   refine wpAnyH_done (by kernel_rfl) ?_ _
   refine ⟨(hk2.trans (KeepsOthers.setCell _ _ _)).from _, hKx, ⟨_, hv2, ?_, trivial⟩, hB.trans hKx.1⟩
   have e1 : wordsK xs (pre ++ [(⟨k, hk⟩ : Fin m)]) = wordsK xs pre ++ [y1 * 256 + y2] := by rw [← HW.out]; simp [wordsK]
   rw [e1]
   simpa [hwl] using hr2
 case done =>
  rintro D ys W hD rfl ⟨⟨v, hv, hrow, _⟩, hB⟩ hK
  have hc := hv.cell
  gi_wp2
  refine ⟨by simp, .inl ⟨_, _, rfl, run_takeDeferred hK, ?_⟩⟩
  have hwl2 : (wordsK xs (List.finRange m)).length = m := by simp [wordsK]
  rw [hwl2] at hrow
  exact ⟨_, results_tmp rfl _ _ _, v, rfl, own_base (base' := w.heap.size) (ownsRow_putObj hrow _ hK rfl) (by omega), hB.trans (belowK_b (w := w) (Nat.le_refl _) W D _ _ (by simp at hD; omega) hK rfl rfl)⟩
 case stop =>
  rintro D c pre W _ _ h _
  exact h.elim
theorem wordsP_take (xs : List Int) : wordsP (xs.take (2 * (xs.length / 2))) = wordsP xs := by
 apply List.ext_getElem
 ·simp only [wordsP_len, List.length_take]; omega
 ·intro i h1 h2
  rw [wordsP_len] at h2
  simp only [wordsP, List.getElem_map, List.getElem_range, wordP, List.getD, List.getElem?_take]
  rw [if_pos (by omega), if_pos (by omega)]
theorem pwords_any (A : Option Addr) (n c : Nat) (xs : List Int) (hn : n ≤ 1000000) (w : World) (h : SlI w w.heap.size .u8 A n c xs) (hx : Byte8 xs) :
  Calls Tryd.prog 142 #[.slice A n c] w fun e w' => ∃ A' c', e = .returned (.slice A' (n / 2) c') ∧ SlI w' w'.heap.size .i64 A' (n / 2) c' (wordsP xs) ∧ (∀ g o, A' = some ⟨g, o, none⟩ → w.heap.size ≤ g) ∧ Below w.heap.size w w' := by
 have hl := h.1
 have ht := h.take (2 * (n / 2)) (by omega)
 refine ((callsIn_wide (n := 5)).1 (pwords_in A n (2 * (n / 2)) c (n / 2) (xs.take (2 * (n / 2))) hn (by omega) (by omega) rfl h.2.1 (by rw [List.length_take]; omega) (fun x hm => hx x (List.mem_of_mem_take hm)) w ht.2.2.2.2)).mono ?_
 rintro e w' ⟨v, rfl, ho, hb⟩
 obtain ⟨A', c', rfl, hs⟩ := SlI.of_own ho
 refine ⟨A', c', rfl, ?_, (fun g o e => (ho.lt g (by rw [e]; rfl)).1), hb⟩
 rw [wordsK_P _ (n / 2) (by rw [List.length_take]; omega)] at hs
 have e1 := wordsP_take xs
 rw [hl] at e1
 rw [e1] at hs
 exact hs
end Go.Proofs.YtcipleanckeoaaaDoor
