/- The poller's small methods. -/
import Derived.Test.YtcipleanckeoaaaDoorPolMem
import Derived.Test.YtcipleanckeoaaaDoorCommon
import Derived.Deep.QuietTactic
import Derived.BigQuiet
import Derived.Deep.RegionHeld3
namespace Go.Proofs.YtcipleanckeoaaaDoor
open Go.RowKit
attribute [local go_sem] Oper.semAt_some
set_option linter.unusedVariables false
set_option linter.unusedSimpArgs false
set_option maxRecDepth 100000
set_option maxHeartbeats 1000000 in
theorem comes_any (g gl cap : Nat) (c : PCf) (s : PSt) (t : Int) (w : World) (h : PolAt w g gl cap c s) (hn : 0 < s.l.length) (h1 : s.now ≤ t) (h2 : t ≤ 4611686018427387904) :
    Calls Tryd.prog 79 #[.pointer (some ⟨g, 0, none⟩), .int .i64 t] w (PolPost w g gl cap c { s with now := t } (.int .i64 0)) := by
  have H := Lib.hid h
  obtain ⟨_, _, _, _, _, c6, c7, _⟩ := h.cells
  have f7 := h.frozen 7
  have hlt := h.lt.1
  have d1 : decide (t < s.now) = false := decide_eq_false (by omega)
  have d2 : decide ((4611686018427387904 : Int) < t) = false := decide_eq_false (by omega)
  have hz : ((s.l.length : Int) == 0) = false := beq_eq_false_iff_ne.2 (by omega)
  clear h h1 h2
  go_in
  go_wp2
  go_ret
  exact ⟨rfl, H.out.put 7 _ { s with now := t } rfl rfl, (Bt.refl _ _ _).set _ _ (.inl rfl) _⟩
set_option maxHeartbeats 1000000 in
theorem offline_any (g gl cap : Nat) (c : PCf) (s : PSt) (k : Nat) (x : PPt) (w : World) (h : PolAt w g gl cap c s) (hx : s.l[k]? = some x) :
    Calls Tryd.prog 84 #[.pointer (some ⟨g, 0, none⟩), .int .i64 k] w fun e w' => e = .returned (.bool (offB c x)) ∧ ∃ n, w' = w.drewN n := by
  obtain ⟨_, _, _, _, c5, c6, _⟩ := h.cells
  obtain ⟨_, _, _, _, _, p5, _⟩ := h.point hx
  have hk := (List.getElem?_eq_some_iff.1 hx).1
  have hkI : (k : Int) < (s.l.length : Int) := by omega
  unfold offB
  clear h hx
  go_in
  go_wp2
  go_quiet (fail)
  go_wp2
  go_ret
  exact ⟨rfl, _, rfl⟩
set_option maxHeartbeats 1000000 in
theorem quiet_any (g gl cap : Nat) (c : PCf) (s : PSt) (w : World) (h : PolAt w g gl cap c s) (hb : -9223372036854775808 ≤ s.now + c.sil ∧ s.now + c.sil ≤ 9223372036854775807) :
    Calls Tryd.prog 86 #[.pointer (some ⟨g, 0, none⟩)] w fun e w' => (∃ v, e = .returned v) ∧ PolAt w' g gl cap c (quietP c s) ∧ Bt g gl w w' := by
  have H := Lib.hid h
  obtain ⟨_, c2, _, _, _, _, c7, _⟩ := h.cells
  have f11 := h.frozen 11
  have f12 := h.frozen 12
  have hlt := h.lt.1
  have hw : IntKind.i64.wrap (s.now + c.sil) = s.now + c.sil := by simp only [IntKind.wrap_i64]; omega
  clear h
  go_in
  go_wp2
  go_region
  go_end0
  exact ⟨⟨_, rfl⟩, ((H.out.put 11 _ { s with waits := false } rfl rfl).put 12 _ (quietP c s) rfl rfl).drew, (((Bt.refl _ _ _).set _ _ (.inl rfl) _).set _ _ (.inl rfl) _).drew⟩
theorem i64_add_in (a b : Int) (h1 : -9223372036854775808 ≤ a + b) (h2 : a + b ≤ 9223372036854775807) : IntKind.i64.wrap (a + b) = a + b := by simp only [IntKind.wrap_i64]; omega
set_option maxHeartbeats 2000000 in
theorem fail_any (g gl cap : Nat) (c : PCf) (s : PSt) (k : Nat) (x : PPt) (w : World) (h : PolAt w g gl cap c s) (ho : s.opn = k) (hx : s.l[k]? = some x) (hb : -9223372036854775808 ≤ s.now + c.sil ∧ s.now + c.sil ≤ 9223372036854775807) (hf : 0 ≤ x.fails ∧ x.fails ≤ 1000000) :
    Calls Tryd.prog 80 #[.pointer (some ⟨g, 0, none⟩)] w (PolPost w g gl cap c (failP c s).1 (.int .i64 (failP c s).2)) := by
  have HQ := Lib.hid (quiet_any g gl cap c s w h hb)
  have HF : Hid (failP c s = if offB c x = false ∧ s.tries ≤ c.ret then (quietP c s, -1) else ({ quietP c s with l := s.l.set k { x with fails := x.fails + 1 }, opn := -1 }, (k : Int))) := Lib.hid (by
    unfold failP
    rw [show s.l[s.opn.toNat]? = some x by rw [ho]; exact hx]
    dsimp only
    rw [ho, Int.toNat_natCast])
  have hlt := h.lt.1
  have HX := Lib.hid hx
  have hk := (List.getElem?_eq_some_iff.1 hx).1
  have hkI : (k : Int) < (s.l.length : Int) := by omega
  have HO := Lib.hid ho
  clear h hx ho
  go_in
  go_wp2_with (go_at_call 86; refine HQ.out.mono ?_; rintro e w1 ⟨⟨v, rfl⟩, h1, b1⟩)
  obtain ⟨c1, c2, c3, c4, c5, c6, c7, c8, c9, c10, c11, c12⟩ := h1.cells
  rw [show (quietP c s).opn = (k : Int) from HO.out] at c8
  rw [show (quietP c s).tries = s.tries from rfl] at c10
  rw [show (quietP c s).l = s.l from rfl] at c6
  have HP := Lib.hid h1
  have HB := Lib.hid b1
  have hz := b1.size
  clear h1 b1
  have HOF := Lib.hid (fun V (hV : PolAt V g gl cap c (quietP c s)) => offline_any g gl cap c (quietP c s) k x V hV HX.out)
  obtain ⟨of, hof⟩ : ∃ of, offB c x = of := ⟨_, rfl⟩
  rw [hof] at HOF HF
  cases of
  · by_cases ht : s.tries ≤ c.ret
    · have HF2 := Lib.hid (HF.out.trans (if_pos ⟨rfl, ht⟩))
      clear hof HF
      go_quiet ((go_at_call 84; exact Calls.quiet_of (HOF.out _ (HP.out.drewN _))))
      go_wp2
      go_ret
      rw [PolPost, HF2.out]
      exact ⟨rfl, HP.out.drewN _, HB.out.trans (Bt.of_below (below_drewN (Below.refl _ _) _))⟩
    · have HF2 := Lib.hid (HF.out.trans (if_neg (fun q => ht q.2)))
      have hd : decide (s.tries ≤ c.ret) = false := decide_eq_false ht
      clear hof HF
      go_quiet ((go_at_call 84; exact Calls.quiet_of (HOF.out _ (HP.out.drewN _))))
      obtain ⟨_, _, _, _, _, p5, _⟩ := HP.out.point HX.out
      have f5 := HP.out.frozen' (k * 7 + 5)
      have f8 := HP.out.frozen 8
      have hl2 := HP.out.lt
      go_wp2
      go_ret
      rw [PolPost, HF2.out]
      exact ⟨rfl, ((HP.out.drewN _).putPt HX.out 5 _ { x with fails := x.fails + 1 } (by omega) rfl).put 8 _ { quietP c s with l := s.l.set k { x with fails := x.fails + 1 }, opn := -1 } rfl rfl, HB.out.trans (((Bt.of_below (below_drewN (Below.refl _ _) _)).set _ _ (.inr rfl) _).set _ _ (.inl rfl) _)⟩
  · have HF2 := Lib.hid (HF.out.trans (if_neg (fun q => by cases q.1)))
    clear hof HF
    go_quiet ((go_at_call 84; exact Calls.quiet_of (HOF.out _ (HP.out.drewN _))))
    obtain ⟨_, _, _, _, _, p5, _⟩ := HP.out.point HX.out
    have f5 := HP.out.frozen' (k * 7 + 5)
    have f8 := HP.out.frozen 8
    have hl2 := HP.out.lt
    go_wp2
    go_ret
    rw [PolPost, HF2.out]
    exact ⟨rfl, ((HP.out.drewN _).putPt HX.out 5 _ { x with fails := x.fails + 1 } (by omega) rfl).put 8 _ { quietP c s with l := s.l.set k { x with fails := x.fails + 1 }, opn := -1 } rfl rfl, HB.out.trans (((Bt.of_below (below_drewN (Below.refl _ _) _)).set _ _ (.inr rfl) _).set _ _ (.inl rfl) _)⟩
set_option maxHeartbeats 1000000 in
theorem asking_any (g gl cap : Nat) (c : PCf) (s : PSt) (w : World) (h : PolAt w g gl cap c s) (hn : 0 < s.l.length) :
    Calls Tryd.prog 37 #[.pointer (some ⟨g, 0, none⟩)] w fun e w' => e = .returned (.tuple (if s.opn < 0 then #[.int .i64 (-1), .int .i64 0] else #[.int .i64 s.opn, .int .i64 s.tries])) ∧ ∃ n, w' = w.drewN n := by
  obtain ⟨_, _, _, _, _, c6, _, c8, _, c10, _⟩ := h.cells
  have hz : ((s.l.length : Int) == 0) = false := beq_eq_false_iff_ne.2 (by omega)
  clear h hn
  by_cases ho : s.opn < 0
  · rw [if_pos ho]
    go_in
    go_wp2
    go_ret2
    exact ⟨rfl, 0, rfl⟩
  · rw [if_neg ho]
    have hd : decide (s.opn < 0) = false := decide_eq_false ho
    go_in
    go_wp2
    go_quiet (fail)
    go_wp2
    go_ret2
    exact ⟨rfl, _, rfl⟩
set_option maxHeartbeats 1000000 in
theorem is_any (g gl cap : Nat) (c : PCf) (s : PSt) (k : Int) (w : World) (h : PolAt w g gl cap c s) :
    Calls Tryd.prog 83 #[.pointer (some ⟨g, 0, none⟩), .int .i64 k] w fun e w' => e = .returned (.bool (decide (0 ≤ k ∧ k < s.l.length))) ∧ w = w' := by
  obtain ⟨_, _, _, _, _, c6, _⟩ := h.cells
  clear h
  by_cases h0 : 0 ≤ k
  · by_cases h1 : k < s.l.length
    · rw [decide_eq_true ⟨h0, h1⟩]
      go_in
      go_wp2
      go_ret
      exact ⟨rfl, rfl⟩
    · rw [decide_eq_false (fun q => h1 q.2)]
      have hd : decide (k < (s.l.length : Int)) = false := decide_eq_false h1
      go_in
      go_wp2
      go_ret
      exact ⟨rfl, rfl⟩
  · rw [decide_eq_false (fun q => h0 q.1)]
    have hd : decide (0 ≤ k) = false := decide_eq_false h0
    go_in
    go_wp2
    go_ret
    exact ⟨rfl, rfl⟩
theorem turns_any (g gl cap : Nat) (c : PCf) (s : PSt) (k : Nat) (x : PPt) (w : World) (h : PolAt w g gl cap c s) (hx : s.l[k]? = some x) :
    Calls Tryd.prog 38 #[.pointer (some ⟨g, 0, none⟩), .int .i64 k] w fun e w' => e = .returned (.int .i64 x.turns) ∧ w = w' := by
  have HI := Lib.hid (is_any g gl cap c s k w h)
  have hk := (List.getElem?_eq_some_iff.1 hx).1
  rw [decide_eq_true ⟨by omega, by omega⟩] at HI
  obtain ⟨_, _, _, _, _, c6, _⟩ := h.cells
  obtain ⟨_, _, _, _, _, _, p6⟩ := h.point hx
  have hkI : (k : Int) < (s.l.length : Int) := by omega
  clear h hx
  go_in
  go_wp2_with (go_at_call 83; refine HI.out.mono ?_; rintro e w1 ⟨rfl, rfl⟩)
  go_ret
  exact ⟨rfl, rfl⟩
theorem fails_any (g gl cap : Nat) (c : PCf) (s : PSt) (k : Nat) (x : PPt) (w : World) (h : PolAt w g gl cap c s) (hx : s.l[k]? = some x) :
    Calls Tryd.prog 42 #[.pointer (some ⟨g, 0, none⟩), .int .i64 k] w fun e w' => e = .returned (.int .i64 x.fails) ∧ w = w' := by
  have HI := Lib.hid (is_any g gl cap c s k w h)
  have hk := (List.getElem?_eq_some_iff.1 hx).1
  rw [decide_eq_true ⟨by omega, by omega⟩] at HI
  obtain ⟨_, _, _, _, _, c6, _⟩ := h.cells
  obtain ⟨_, _, _, _, _, p5, _⟩ := h.point hx
  have hkI : (k : Int) < (s.l.length : Int) := by omega
  clear h hx
  go_in
  go_wp2_with (go_at_call 83; refine HI.out.mono ?_; rintro e w1 ⟨rfl, rfl⟩)
  go_ret
  exact ⟨rfl, rfl⟩
theorem Offline_any (g gl cap : Nat) (c : PCf) (s : PSt) (k : Nat) (x : PPt) (w : World) (h : PolAt w g gl cap c s) (hx : s.l[k]? = some x) :
    Calls Tryd.prog 39 #[.pointer (some ⟨g, 0, none⟩), .int .i64 k] w fun e w' => e = .returned (.bool (offB c x)) ∧ ∃ n, w' = w.drewN n := by
  have HI := Lib.hid (is_any g gl cap c s k w h)
  have HO := Lib.hid (offline_any g gl cap c s k x w h hx)
  have hk := (List.getElem?_eq_some_iff.1 hx).1
  rw [decide_eq_true ⟨by omega, by omega⟩] at HI
  obtain ⟨of, hof⟩ : ∃ of, offB c x = of := ⟨_, rfl⟩
  rw [hof] at HO ⊢
  clear h hx hof
  go_in
  go_wp2_with (first
    | (go_at_call 83; refine HI.out.mono ?_; rintro e w1 ⟨rfl, rfl⟩)
    | (go_at_call 84; refine HO.out.mono ?_; rintro e w1 ⟨rfl, n1, rfl⟩))
  go_ret
  exact ⟨rfl, n1, rfl⟩
theorem Offline_none (g gl cap : Nat) (c : PCf) (s : PSt) (k : Int) (hk : k < 0) (w : World) (h : PolAt w g gl cap c s) :
    Calls Tryd.prog 39 #[.pointer (some ⟨g, 0, none⟩), .int .i64 k] w fun e w' => e = .returned (.bool false) ∧ ∃ n, w' = w.drewN n := by
  have HI := Lib.hid (is_any g gl cap c s k w h)
  rw [decide_eq_false (fun q => by omega)] at HI
  clear h
  go_in
  go_wp2_with (go_at_call 83; refine HI.out.mono ?_; rintro e w1 ⟨rfl, rfl⟩)
  go_ret
  exact ⟨rfl, 0, rfl⟩
end Go.Proofs.YtcipleanckeoaaaDoor
