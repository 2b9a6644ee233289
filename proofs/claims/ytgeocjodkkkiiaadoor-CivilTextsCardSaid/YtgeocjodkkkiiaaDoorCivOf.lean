/- civil.Of. -/
import Derived.Test.YtgeocjodkkkiiaaDoorCivDay
import Derived.Test.YtgeocjodkkkiiaaDoorRound
import Derived.Scope
import Derived.WalkMore
import Derived.Laws.ResultCell
import Derived.Laws.Rows
namespace Go.Proofs.YtgeocjodkkkiiaaDoor
open Go.RowKit Go.Shelf
attribute [local go_sem] Oper.semAt_some

theorem of_no (n : Int) (h : n < 0 ∨ 2932896 < n) (w : World) : Calls Tryd.prog 14 #[.int .i64 n] w fun e w' => e = .returned (.tuple #[.agg #[.int .i64 0, .int .i64 0, .int .i64 0], .int .i64 60]) ∧ Below w.heap.size w w' := by
  rcases h with h | h
  · go_in
    go_wp2
    go_step3
    go_wp2
    rw [Exit.noGoto_ret]
    exact bodyPost_ret (v := .tuple #[.agg #[.int .i64 0, .int .i64 0, .int .i64 0], .int .i64 60]) (by simp [results, Tryd.results14, go_sem]) rfl ⟨rfl, below_alloc (Below.refl _ _) _⟩
  · have h' : ¬ n < 0 := by omega
    go_in
    go_wp2
    go_step3
    go_wp2
    rw [Exit.noGoto_ret]
    exact bodyPost_ret (v := .tuple #[.agg #[.int .i64 0, .int .i64 0, .int .i64 0], .int .i64 60]) (by simp [results, Tryd.results14, go_sem]) rfl ⟨rfl, below_alloc (Below.refl _ _) _⟩

/-- The month and the day that stand there behind these months. -/
def stM (pre : List (Fin 12)) : Int := match pre.getLast? with
  | none => 0
  | some k => (k.1 : Int) + 1
def stD (y q : Int) (pre : List (Fin 12)) : Int := match pre.getLast? with
  | none => 0
  | some k => q - cumN y k.1 + 1
theorem stM_snoc (pre : List (Fin 12)) (x : Fin 12) : stM (pre ++ [x]) = (x.1 : Int) + 1 := by simp [stM]
theorem stD_snoc (y q : Int) (pre : List (Fin 12)) (x : Fin 12) : stD y q (pre ++ [x]) = q - cumN y x.1 + 1 := by simp [stD]
def StO (y q : Int) (R : Nat) (pre : List (Fin 12)) (W : World) : Prop :=
  Held W (R + 1 + 1) 23 #[.int .i64 y, .int .i64 (stM pre), .int .i64 (stD y q pre)] ∧ Held W (R + 1) 3 #[.int .i64 q] ∧ Held W R 23 #[.int .i64 0, .int .i64 0, .int .i64 0]
theorem stO_own {B : Nat} (y q : Int) (R : Nat) : OwnFrom B (StO y q R) := fun _ X Y row hs hg hr =>
  ⟨held_ownFrom () X Y row hs.1 hg hr, held_ownFrom () X Y row hs.2.1 hg hr, held_ownFrom () X Y row hs.2.2 hg hr⟩
/-- The date of a day, out of its months. -/
theorem isD_of (n y : Int) (k : Fin 12) (hy1 : 1970 ≤ y) (hy2 : y ≤ 9999) (h1 : cumN y k.1 ≤ n - aheadN y) (h2 : n - aheadN y < cumN y (k.1 + 1)) : IsD n y ((k.1 : Int) + 1) (n - aheadN y - cumN y k.1 + 1) := by
  have hk := k.2
  have e : cumN y (k.1 + 1) = cumN y k.1 + daysN y (k.1 + 1) := rfl
  refine ⟨(mayB_iff _ _ _).2 ⟨hy1, hy2, by omega, by omega, by omega, by omega⟩, ?_⟩
  unfold numN
  rw [show ((k.1 : Int) + 1).toNat - 1 = k.1 by omega]
  omega
theorem isD_done (n y : Int) (hy1 : 1970 ≤ y) (hy2 : y ≤ 9999) (h1 : ∀ k ∈ List.finRange 12, cumN y k.1 ≤ n - aheadN y) (h2 : n - aheadN y < 365 + leapI y) : IsD n y (stM (List.finRange 12)) (stD y (n - aheadN y) (List.finRange 12)) := by
  have e : List.finRange 12 = (List.finRange 12).take 11 ++ [⟨11, by decide⟩] := by decide
  rw [e, stM_snoc, stD_snoc]
  exact isD_of n y ⟨11, by decide⟩ hy1 hy2 (h1 _ (List.mem_finRange _)) (by rw [cumN_12]; exact h2)
theorem isD_stop (n y : Int) (hy1 : 1970 ≤ y) (hy2 : y ≤ 9999) (h0 : 0 ≤ n - aheadN y) (pre : List (Fin 12)) (x : Fin 12) (hp : pre ++ [x] <+: List.finRange 12) (h1 : ∀ k ∈ pre, cumN y k.1 ≤ n - aheadN y) (h2 : n - aheadN y < cumN y x.1) : IsD n y (stM pre) (stD y (n - aheadN y) pre) := by
  have hat : ∀ i, i < (pre ++ [x]).length → ∃ k : Fin 12, (pre ++ [x])[i]? = some k ∧ k.1 = i := fun i hi => by
    have hl := hp.length_le
    rw [List.length_finRange] at hl
    have h3 := List.prefix_iff_eq_take.1 hp
    refine ⟨⟨i, by omega⟩, ?_, rfl⟩
    rw [h3, List.getElem?_take, if_pos hi, List.getElem?_eq_getElem (by rw [List.length_finRange]; omega), List.getElem_finRange]
    rfl
  obtain ⟨k, hk, hk2⟩ := hat pre.length (by simp)
  rw [List.getElem?_append_right (Nat.le_refl _)] at hk
  simp at hk
  subst hk
  rcases List.eq_nil_or_concat pre with rfl | ⟨l, a, rfl⟩
  · simp at hk2
    rw [hk2] at h2
    simp [cumN] at h2
    omega
  · simp only [List.concat_eq_append] at *
    obtain ⟨k, hk, hk3⟩ := hat l.length (by simp)
    rw [List.append_assoc, List.getElem?_append_right (Nat.le_refl _)] at hk
    simp at hk
    subst hk
    rw [stM_snoc, stD_snoc]
    exact isD_of n y a hy1 hy2 (h1 _ (by simp)) (by rw [show a.1 + 1 = x.1 by simp at hk2; omega]; exact h2)
theorem results_date (fn : Func) (hres : fn.results = #[.cell 2 23, .tmp 3]) (tmps : Array Value) (w : World) (g : Nat) (a b c : Int) (u : Value) (h2 : tmps.getD 2 undef = .pointer (some ⟨g, 0, none⟩)) (h3 : tmps.getD 3 undef = u)
    (hg : Held w g 23 #[.int .i64 a, .int .i64 b, .int .i64 c]) : (results fn tmps).run Tryd.prog w = .ok (.tuple #[.agg #[.int .i64 a, .int .i64 b, .int .i64 c], u]) w := by
  rw [results_cell_tmp hres, h2, h3]
  simp only [asAddr, Sem.run_pure, Result.andThen]
  rw [run_loadVar_row w g 23 23 #[.int .i64 a, .int .i64 b, .int .i64 c] (0, 0) _ hg Tryd.underlying23 rfl (by kernel_rfl)]
theorem Held.putObj {W : World} {B : Nat} {t : TypeId} {cs : Array Value} (h : Held W B t cs) {l : Nat} {o : Obj} (o' : Obj) (hl : W.heap[l]? = some o) (ho : o.isCells = false) : Held (W.putObj l o') B t cs := by
  refine (World.putObj_heap_other ?_).trans h
  rintro rfl
  unfold Held at h
  rw [h] at hl; cases hl; cases ho

/-- The frame in a round. -/
def frameO (n y : Int) (R : Nat) (u24 u25 : Value) (k : Fin 12) : Act := { tmps := #[.int .i64 n, undef, .pointer (some ⟨R, 0, none⟩), .int .i64 0, .int .i64 y, .pointer (some ⟨R + 1, 0, none⟩), .pointer (some ⟨R + 1 + 1, 0, none⟩), .int .i64 ((k.1 : Int) + 1), .int .i64 (cumN y k.1), .int .i64 n, .bool false, .bool false, .int .i64 n, .bool false, .bool false, undef, .int .i64 n, .int .i64 (n / 366), .int .i64 (1970 + n / 366), .int .i64 y, .int .i64 (y + 1), .int .i64 (aheadN (y + 1)), .int .i64 n, .bool false, u24, u25, .int .i64 n, .int .i64 y, .int .i64 (aheadN y), .int .i64 (n - aheadN y), .int .i64 y, .agg #[.int .i64 y, .int .i64 0, .int .i64 0], .int .i64 y, .func (.func 42) #[] #[.pointer (some ⟨R + 1 + 1 + 1, 0, none⟩)], .int .i64 ((k.1 : Int) + 1), .int .i64 (cumN y k.1), undef, undef, undef, undef, undef, undef, undef, undef, undef, undef, undef], defers := [] }

set_option maxRecDepth 100000 in
set_option maxHeartbeats 4000000 in
theorem of_yes (n : Int) (h0 : 0 ≤ n) (h1 : n ≤ 2932896) (w : World) (T : Lens w) : CallsIn Fence.wide 6 Tryd.prog 14 #[.int .i64 n] w fun e w' => (∃ y m d, IsD n y m d ∧ e = .returned (.tuple #[.agg #[.int .i64 y, .int .i64 m, .int .i64 d], .int .i64 0])) ∧ Below w.heap.size w w' := by
  have HT := Lib.hid T
  have hg := T.lt (by decide)
  clear T
  have hah := aheadN_hi 1970 (1970 + n / 366) (by omega)
  rw [aheadN_start] at hah
  refine callsIn_of_wp_marks Tryd.func14 rfl trivial ?_ rfl
  simp only [Tryd.ntmps14, List.size_toArray, List.length_cons, List.length_nil, Nat.reduceAdd, Nat.reduceSub, Array.replicate_succ, Array.replicate_zero, List.push_toArray, List.append_toArray, List.nil_append, List.cons_append]
  refine wpIn_wide.2 ?_
  have g1 : decide (n < 0) = false := by simpa using h0
  have g2 : decide (2932896 < n) = false := by simpa using h1
  go_wp2
  go_step3
  go_wp2
  go_loop [4] (fun v => ∃ y : Int, 1970 ≤ y ∧ y ≤ 9999 ∧ aheadN y ≤ n ∧ v = .int .i64 y) (fun v => (9999 - intOf v).toNat)
  case atStart => exact ⟨_, by omega, by omega, by omega, rfl⟩
  case round =>
    obtain ⟨y, hy1, hy2, hy3, rfl⟩ := hrel
    have hs := aheadN_succ y
    have hl := leapI_in y
    by_cases hlt : aheadN (y + 1) ≤ n
    · have hy4 : y < 9999 := by
        rcases Int.lt_or_le y 9999 with h | h
        · exact h
        · obtain rfl : y = 9999 := by omega
          have := aheadN_end
          simp at hlt
          omega
      clear hs
      go_wp2_with (go_at_call 36; refine (ahead_own (y + 1) (by omega) (by omega) _).mono ?_; rintro e w' ⟨rfl, rfl⟩)
      go_round
      case rel => exact ⟨y + 1, by omega, by omega, hlt, rfl⟩
      case measure => simp [intOf]; omega
    · have g3 : decide (aheadN (y + 1) ≤ n) = false := by simpa using hlt
      have hq0 : 0 ≤ n - aheadN y := by omega
      have hq1 : n - aheadN y < 365 + leapI y := by omega
      clear hs
      go_wp2_with (first
        | (go_at_call 36; (with_reducible refine (ahead_own (y + 1) (by omega) (by omega) _).mono ?_); rintro e w' ⟨rfl, rfl⟩)
        | (go_at_call 36; (with_reducible refine (ahead_own y (by omega) (by omega) _).mono ?_); rintro e w' ⟨rfl, rfl⟩)
        | (go_at_call 37; refine ((callsIn_wide (n := 5)).1 (months_in y _)).mono ?_; rintro e w' ⟨rfl, rfl⟩))
      refine wp_label ?_
      go_wp2_with (go_at_call 37; refine ((callsIn_wide (n := 5)).1 (months_in y _)).mono ?_; rintro e w' ⟨rfl, rfl⟩)
      have hB0 : Below w.heap.size w ((((w.alloc (Obj.cells #[.int .i64 0, .int .i64 0, .int .i64 0] 23)).alloc (Obj.cells #[.int .i64 (n - aheadN y)] 3)).alloc (Obj.cells #[.int .i64 y, .int .i64 0, .int .i64 0] 23)).alloc (Obj.cells #[.int .i64 y] 3)) := below_alloc (below_alloc (below_alloc (below_alloc (Below.refl _ _) _) _) _) _
      obtain ⟨W0, hW0⟩ : ∃ W0, W0 = ((((w.alloc (Obj.cells #[.int .i64 0, .int .i64 0, .int .i64 0] 23)).alloc (Obj.cells #[.int .i64 (n - aheadN y)] 3)).alloc (Obj.cells #[.int .i64 y, .int .i64 0, .int .i64 0] 23)).alloc (Obj.cells #[.int .i64 y] 3)) := ⟨_, rfl⟩
      have hs0 : W0.heap.size = w.heap.size + 1 + 1 + 1 + 1 := by rw [hW0]; simp
      have hSt : StO y (n - aheadN y) w.heap.size [] W0 := by
        rw [hW0]
        have a1 := Held.new w 23 #[.int .i64 0, .int .i64 0, .int .i64 0]
        have a2 := Held.new (w.alloc (Obj.cells #[.int .i64 0, .int .i64 0, .int .i64 0] 23)) 3 #[.int .i64 (n - aheadN y)]
        have a3 := Held.new ((w.alloc (Obj.cells #[.int .i64 0, .int .i64 0, .int .i64 0] 23)).alloc (Obj.cells #[.int .i64 (n - aheadN y)] 3)) 23 #[.int .i64 y, .int .i64 0, .int .i64 0]
        simp only [World.size_alloc] at a2 a3
        exact ⟨a3.alloc _, (a2.alloc _).alloc _, ((a1.alloc _).alloc _).alloc _⟩
      have hYb : Held W0 (w.heap.size + 1 + 1 + 1) 3 #[.int .i64 y] := by
        rw [hW0]
        have a4 := Held.new (((w.alloc (Obj.cells #[.int .i64 0, .int .i64 0, .int .i64 0] 23)).alloc (Obj.cells #[.int .i64 (n - aheadN y)] 3)).alloc (Obj.cells #[.int .i64 y, .int .i64 0, .int .i64 0] 23)) 3 #[.int .i64 y]
        simpa only [World.size_alloc] using a4
      rw [← hW0] at hB0 ⊢
      clear hW0
      have hT0 : Lens W0 := HT.out.up hB0
      have HS0 := Lib.hid hs0
      clear hs0
      refine wpIn_wide.1 (wpIn_rangeFunc_ownH (n := 6) rfl (by omega) (gf := 42) (lb := #[.pointer (some ⟨w.heap.size + 1 + 1 + 1, 0, none⟩)]) rfl trivial (enters_of Tryd.func42 (by kernel_rfl) rfl)
        (months_stops y (w.heap.size + 1 + 1 + 1) (w.heap.size + 1 + 1) (w.heap.size + 1 + 1 + 1 + 1) (by omega) (by omega) (by omega) W0 (by have := HS0.out; omega) hT0 (hYb.cell 0)) Kx.trans (fun W l o o' hl ho h1 h2 => Kx.of_below (belowK_b (w := W0) (by have := HS0.out; omega) W l o o' hl ho h1 h2) (by omega)) (Below.refl _ _) (fun _ => rfl)
        (fun pre W => (StO y (n - aheadN y) w.heap.size pre W ∧ ∀ k ∈ pre, cumN y k.1 ≤ n - aheadN y) ∧ Below w.heap.size w W)
        (fun c pre W => c = .exit 2 ∧ ∃ pre' x, pre = pre' ++ [x] ∧ n - aheadN y < cumN y x.1 ∧ (StO y (n - aheadN y) w.heap.size pre' W ∧ ∀ k ∈ pre', cumN y k.1 ≤ n - aheadN y) ∧ Below w.heap.size w W)
        ?own ?ownx
        ⟨⟨hSt, by simp⟩, hB0⟩
        (fun x a' _ => a' = frameO n y w.heap.size u24 u25 x)
        (fun x a' _ X Y row hs hg hr => hs) ?assign ?body ?done ?stop)
      case own =>
        exact OwnFrom.and (fun pre X Y row hs hg hr => ⟨stO_own _ _ _ pre X Y row hs.1 hg hr, hs.2⟩) (ownFrom_below (Nat.le_refl _) (by have := HS0.out; omega))
      case ownx =>
        exact fun c pre X Y row ⟨h5, pre', x, h6, h7, h8, h9⟩ hg hr => ⟨h5, pre', x, h6, h7, ⟨stO_own _ _ _ pre' X Y row h8.1 hg hr, h8.2⟩, ownFrom_below (Nat.le_refl _) (by have := HS0.out; omega) pre X Y row h9 hg hr⟩
      case assign =>
        rintro l pre x W K ⟨⟨h7, h8⟩, hB⟩ hK
        unfold monthV
        gi_wp2
        exact hK _ _ ((KeepsOthers.refl _).from _) (Kx.refl _ _ _) ⟨⟨h7, h8⟩, hB⟩ rfl
      case body =>
        rintro l pre x a' W hl ⟨r, hr⟩ ⟨⟨⟨h7, h8, h9⟩, hle⟩, hB⟩ rfl hlt
        have hcb := cumN_in y x.1
        have hx := x.2
        have hc8 := h8.cell 0
        simp only [List.getElem?_toArray, List.getElem?_cons_zero] at hc8
        have hls := leapI_in y
        unfold frameO
        by_cases hxq : n - aheadN y < cumN y x.1
        · gi_wp2
          exact ⟨(KeepsOthers.refl _).from _, rfl, pre, x, rfl, hxq, ⟨⟨h7, h8, h9⟩, hle⟩, hB⟩
        · have HSM := Lib.hid (stM_snoc pre x)
          have HSD := Lib.hid (stD_snoc y (n - aheadN y) pre x)
          have e1 : IntKind.i64.wrap (n - aheadN y - cumN y x.1) = n - aheadN y - cumN y x.1 := IntWalk.i64_in _ (by omega)
          have e2 : IntKind.i64.wrap (n - aheadN y - cumN y x.1 + 1) = n - aheadN y - cumN y x.1 + 1 := IntWalk.i64_in _ (by omega)
          have hc9 : (W.drew).cell? ⟨w.heap.size + 1, 0, none⟩ = some (.int .i64 (n - aheadN y)) := hc8
          gi_wp2
          refine round_region_held (fun w' => w'.cell? ⟨w.heap.size + 1, 0, none⟩ = some (.int .i64 (n - aheadN y))) (by kernel_rfl) (by kernel_rfl) (ownPostG_notOut _) ?_
          refine wpAnyH_take (i := 0) (v := ?v0) rfl (by kernel_rfl) (by kernel_rfl) (by kernel_rfl) (fun _ _ _ h => h) (Or.inl ⟨by rfl, ?y0⟩) (by assumption) ?r0
          case y0 =>
            rintro w hc1
            go_simp
            with_reducible rfl
          simp only [Act.put]
          refine wpAnyH_take (i := 1) (v := ?v1) rfl (by kernel_rfl) (by kernel_rfl) (by kernel_rfl) (fun _ _ _ h => h) (Or.inl ⟨by rfl, ?y1⟩) (by assumption) ?r1
          case y1 =>
            rintro w hc1
            go_simp
            with_reducible rfl
          simp only [Act.put]
          refine wpAnyH_take (i := 2) (v := ?v2) rfl (by kernel_rfl) (by kernel_rfl) (by kernel_rfl) (fun _ _ _ h => h) (Or.inl ⟨by rfl, ?y2⟩) (by assumption) ?r2
          case y2 =>
            rintro w hc1
            go_simp
            with_reducible rfl
          simp only [Act.put]
          refine wpAnyH_take (i := 3) (v := ?v3) rfl (by kernel_rfl) (by kernel_rfl) (by kernel_rfl) (fun _ _ _ h => h) (Or.inl ⟨by rfl, ?y3⟩) (by assumption) ?r3
          case y3 =>
            rintro w hc1
            go_simp
            with_reducible rfl
          simp only [Act.put]
          refine wpAnyH_take (i := 4) (v := ?v4) rfl (by kernel_rfl) (by kernel_rfl) (by kernel_rfl) (fun _ _ _ h => h) (Or.inl ⟨by rfl, ?y4⟩) (by assumption) ?r4
          case y4 =>
            rintro w hc1
            go_simp
            with_reducible rfl
          simp only [Act.put]
          refine wpAnyH_take (i := 5) (v := ?v5) rfl (by kernel_rfl) (by kernel_rfl) (by kernel_rfl) (fun _ _ _ h => h) (Or.inl ⟨by rfl, ?y5⟩) (by assumption) ?r5
          case y5 =>
            rintro w hc1
            go_simp
            with_reducible rfl
          simp only [Act.put]
          have o1 := h7.cell 1
          have o2 := h7.cell 2
          simp only [List.getElem?_toArray, List.getElem?_cons_zero, List.getElem?_cons_succ] at o1 o2
          have f1 := h7.frozen 1
          have f2 := h7.frozen 2
          have hOL : w.heap.size + 1 + 1 ≠ w.heap.size + 1 := by omega
          refine wpAnyH_ready (rs := [6]) (by kernel_rfl) (by simp) ?_
          refine AllReadyH.cons rfl (fun K hK => ?_) AllReadyH.nil
          go_simp
          refine hK.out _ _ ?_ (fun hSL => ?_)
          · exact (World.cell?_setCell_other W ⟨w.heap.size + 1 + 1, 1, none⟩ ⟨w.heap.size + 1, 0, none⟩ _ (by intro e; injection e with e; omega)).trans hc8
          clear hK K
          refine wpAnyH_ready (rs := [7]) (by kernel_rfl) (by simp) ?_
          refine AllReadyH.cons rfl (fun K hK => ?_) AllReadyH.nil
          go_simp
          refine hK.out _ _ hSL (fun hSL => ?_)
          clear hK K
          refine wpAnyH_ready (rs := [8]) (by kernel_rfl) (by simp) ?_
          refine AllReadyH.cons rfl (fun K hK => ?_) AllReadyH.nil
          have o3 := ((h7.set 1 (.int .i64 ((x.1 : Int) + 1)))).cell 2
          have f3 := ((h7.set 1 (.int .i64 ((x.1 : Int) + 1)))).frozen 2
          simp at o3
          go_simp
          refine hK.out _ _ ?_ (fun hSL2 => ?_)
          · exact (World.cell?_setCell_other _ ⟨w.heap.size + 1 + 1, 2, none⟩ ⟨w.heap.size + 1, 0, none⟩ _ (by intro e; injection e with e; omega)).trans hSL
          clear hK K
          refine wpAnyH_done (by kernel_rfl) ?_ _
          refine ⟨(((KeepsOthers.setCell _ _ _).trans (KeepsOthers.setCell _ _ _)).trans (KeepsOthers.drew _)).from _, (((Kx.refl _ _ W).set 1 _).set 2 _).drew, ⟨⟨?_, ?_, ?_⟩, ?_⟩, ((hB.setCell (p := ⟨w.heap.size + 1 + 1, 1, none⟩) (by show w.heap.size ≤ w.heap.size + 1 + 1; omega) _).setCell (p := ⟨w.heap.size + 1 + 1, 2, none⟩) (by show w.heap.size ≤ w.heap.size + 1 + 1; omega) _).drew⟩
          · rw [HSM.out, HSD.out]
            have := (h7.set 1 (.int .i64 ((x.1 : Int) + 1))).set 2 (.int .i64 (n - aheadN y - cumN y x.1 + 1))
            exact Held.drew (by simpa using this)
          · exact (h8.far (p := ⟨w.heap.size + 1 + 1, 1, none⟩) (by show w.heap.size + 1 ≠ w.heap.size + 1 + 1; omega) _).far (p := ⟨w.heap.size + 1 + 1, 2, none⟩) (by show w.heap.size + 1 ≠ w.heap.size + 1 + 1; omega) _
          · exact (h9.far (p := ⟨w.heap.size + 1 + 1, 1, none⟩) (by show w.heap.size ≠ w.heap.size + 1 + 1; omega) _).far (p := ⟨w.heap.size + 1 + 1, 2, none⟩) (by show w.heap.size ≠ w.heap.size + 1 + 1; omega) _
          · intro k hk
            rcases List.mem_append.1 hk with hk | hk
            · exact hle k hk
            · simp at hk; subst hk; omega
      case done =>
        rintro D ys W hD rfl ⟨⟨⟨h7, h8, h9⟩, hle⟩, hB⟩ hK
        have o0 := h7.cell 0
        have o1 := h7.cell 1
        have o2 := h7.cell 2
        have r0 := h9.cell 0
        have r1 := h9.cell 1
        have r2 := h9.cell 2
        simp only [List.getElem?_toArray, List.getElem?_cons_zero, List.getElem?_cons_succ] at o0 o1 o2 r0 r1 r2
        have f0 := h9.frozen 0
        have f1 := h9.frozen 1
        have f2 := h9.frozen 2
        go_wp2
        rw [Exit.noGoto_ret]
        have hRa := ((h9.set 0 (.int .i64 y)).set 1 (.int .i64 (stM (List.finRange 12)))).set 2 (.int .i64 (stD y (n - aheadN y) (List.finRange 12)))
        have hRb : Held (((W.setCell ⟨w.heap.size, 0, none⟩ (.int .i64 y)).setCell ⟨w.heap.size, 1, none⟩ (.int .i64 (stM (List.finRange 12)))).setCell ⟨w.heap.size, 2, none⟩ (.int .i64 (stD y (n - aheadN y) (List.finRange 12)))) w.heap.size 23 #[.int .i64 y, .int .i64 (stM (List.finRange 12)), .int .i64 (stD y (n - aheadN y) (List.finRange 12))] := by simpa using hRa
        have hKa : (((W.setCell ⟨w.heap.size, 0, none⟩ (.int .i64 y)).setCell ⟨w.heap.size, 1, none⟩ (.int .i64 (stM (List.finRange 12)))).setCell ⟨w.heap.size, 2, none⟩ (.int .i64 (stD y (n - aheadN y) (List.finRange 12)))).heap[D]? = some (.deferred (some [])) := by
          have hDR : D ≠ w.heap.size := by have := HS0.out; omega
          exact (Below.heap_setCell _ ⟨w.heap.size, 2, none⟩ _ D hDR).trans ((Below.heap_setCell _ ⟨w.heap.size, 1, none⟩ _ D hDR).trans ((Below.heap_setCell _ ⟨w.heap.size, 0, none⟩ _ D hDR).trans hK))
        have hBa := ((hB.setCell (p := ⟨w.heap.size, 0, none⟩) (Nat.le_refl _) (.int .i64 y)).setCell (p := ⟨w.heap.size, 1, none⟩) (Nat.le_refl _) (.int .i64 (stM (List.finRange 12)))).setCell (p := ⟨w.heap.size, 2, none⟩) (Nat.le_refl _) (.int .i64 (stD y (n - aheadN y) (List.finRange 12)))
        refine ⟨by simp, .inl ⟨_, _, rfl, run_takeDeferred hKa, ?_⟩⟩
        exact ⟨_, results_date _ rfl _ _ _ _ _ _ _ rfl rfl (hRb.putObj _ hKa rfl), ⟨y, _, _, isD_done n y hy1 hy2 hle hq1, rfl⟩, hBa.trans (belowK_b (w := w) (Nat.le_refl _) _ D _ _ (by have := HS0.out; omega) hKa rfl rfl)⟩
      case stop =>
        rintro D c pre W hD hpre ⟨rfl, pre', x, rfl, h6, ⟨⟨h7, h8, h9⟩, hle⟩, hB⟩ hK
        have o0 := h7.cell 0
        have o1 := h7.cell 1
        have o2 := h7.cell 2
        have r0 := h9.cell 0
        have r1 := h9.cell 1
        have r2 := h9.cell 2
        simp only [List.getElem?_toArray, List.getElem?_cons_zero, List.getElem?_cons_succ] at o0 o1 o2 r0 r1 r2
        have f0 := h9.frozen 0
        have f1 := h9.frozen 1
        have f2 := h9.frozen 2
        gi_wp2
        go_wp2
        rw [Exit.noGoto_ret]
        have hRa := ((h9.set 0 (.int .i64 y)).set 1 (.int .i64 (stM pre'))).set 2 (.int .i64 (stD y (n - aheadN y) pre'))
        have hRb : Held (((W.setCell ⟨w.heap.size, 0, none⟩ (.int .i64 y)).setCell ⟨w.heap.size, 1, none⟩ (.int .i64 (stM pre'))).setCell ⟨w.heap.size, 2, none⟩ (.int .i64 (stD y (n - aheadN y) pre'))) w.heap.size 23 #[.int .i64 y, .int .i64 (stM pre'), .int .i64 (stD y (n - aheadN y) pre')] := by simpa using hRa
        have hKa : (((W.setCell ⟨w.heap.size, 0, none⟩ (.int .i64 y)).setCell ⟨w.heap.size, 1, none⟩ (.int .i64 (stM pre'))).setCell ⟨w.heap.size, 2, none⟩ (.int .i64 (stD y (n - aheadN y) pre'))).heap[D]? = some (.deferred (some [])) := by
          have hDR : D ≠ w.heap.size := by have := HS0.out; omega
          exact (Below.heap_setCell _ ⟨w.heap.size, 2, none⟩ _ D hDR).trans ((Below.heap_setCell _ ⟨w.heap.size, 1, none⟩ _ D hDR).trans ((Below.heap_setCell _ ⟨w.heap.size, 0, none⟩ _ D hDR).trans hK))
        have hBa := ((hB.setCell (p := ⟨w.heap.size, 0, none⟩) (Nat.le_refl _) (.int .i64 y)).setCell (p := ⟨w.heap.size, 1, none⟩) (Nat.le_refl _) (.int .i64 (stM pre'))).setCell (p := ⟨w.heap.size, 2, none⟩) (Nat.le_refl _) (.int .i64 (stD y (n - aheadN y) pre'))
        refine ⟨by simp, .inl ⟨_, _, rfl, run_takeDeferred hKa, ?_⟩⟩
        exact ⟨_, results_date _ rfl _ _ _ _ _ _ _ rfl rfl (hRb.putObj _ hKa rfl), ⟨y, _, _, isD_stop n y hy1 hy2 hq0 pre' x hpre hle h6, rfl⟩, hBa.trans (belowK_b (w := w) (Nat.le_refl _) _ D _ _ (by have := HS0.out; omega) hKa rfl rfl)⟩
end Go.Proofs.YtgeocjodkkkiiaaDoor
