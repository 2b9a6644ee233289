/- Two requests, two replies: whether they are the same. -/
import Derived.Test.YtflbiichdjhaeaaDoorPduEqual
namespace Go.Proofs.YtflbiichdjhaeaaDoor
open Go.RowKit

/-- A request by value. -/
def AskAt (w : World) (v : Value) (p : AskP) : Prop := ∃ Ab nb cb Ar nr cr, v = .agg #[.int .i64 p.fn, .int .i64 p.addr, .int .i64 p.count, .int .i64 p.to, .slice Ab nb cb, .slice Ar nr cr] ∧ SlB w w.heap.size Ab nb cb p.bits ∧ SlI w w.heap.size .u16 Ar nr cr p.regs
/-- A reply by value. -/
def RepAt (w : World) (v : Value) (p : RepP) : Prop := ∃ Ab nb cb Ar nr cr, v = .agg #[.int .i64 p.fn, .int .i64 p.code, .slice Ab nb cb, .slice Ar nr cr] ∧ SlB w w.heap.size Ab nb cb p.bits ∧ SlI w w.heap.size .u16 Ar nr cr p.regs
theorem AskAt.up {w w' : World} {v : Value} {p : AskP} (h : AskAt w v p) (hb : Below w.heap.size w w') : AskAt w' v p := by
  obtain ⟨A, n, c, R, m, d, rfl, hA, hR⟩ := h
  exact ⟨A, n, c, R, m, d, rfl, hA.up hb, hR.up hb⟩
theorem RepAt.up {w w' : World} {v : Value} {p : RepP} (h : RepAt w v p) (hb : Below w.heap.size w w') : RepAt w' v p := by
  obtain ⟨A, n, c, R, m, d, rfl, hA, hR⟩ := h
  exact ⟨A, n, c, R, m, d, rfl, hA.up hb, hR.up hb⟩

theorem ask_eq (p q : AskP) : decide (p = q) = (decide (p.fn = q.fn) && (decide (p.addr = q.addr) && (decide (p.count = q.count) && (decide (p.to = q.to) && (decide (p.bits = q.bits) && decide (p.regs = q.regs)))))) := by
  obtain ⟨a, b, c, d, e, f⟩ := p
  obtain ⟨a', b', c', d', e', f'⟩ := q
  simp only [AskP.mk.injEq, Bool.decide_and]
theorem rep_eq (p q : RepP) : decide (p = q) = (decide (p.fn = q.fn) && (decide (p.code = q.code) && (decide (p.bits = q.bits) && decide (p.regs = q.regs)))) := by
  obtain ⟨a, b, e, f⟩ := p
  obtain ⟨a', b', e', f'⟩ := q
  simp only [RepP.mk.injEq, Bool.decide_and]

set_option maxRecDepth 100000 in
set_option maxHeartbeats 4000000 in
theorem same_own (u v : Value) (p q : AskP) (w : World) (hu : AskAt w u p) (hv : AskAt w v q) :
    Calls Tryd.prog 12 #[u, v] w fun e w' => e = .returned (.bool (decide (p = q))) ∧ Below w.heap.size w w' := by
  obtain ⟨A, n, c, R, m, d, rfl, hA, hR⟩ := hu
  obtain ⟨A', n', c', R', m', d', rfl, hA', hR'⟩ := hv
  rw [ask_eq]
  have HC := Lib.hid (show ∀ X : World, Below w.heap.size w X → Calls Tryd.prog 31 #[.slice A n c, .slice A' n' c'] X fun e w' => e = .returned (.bool (decide (p.bits = q.bits))) ∧ ∃ m, w' = X.drewN m from fun X hb => equal_bools _ _ _ _ _ _ _ _ X (hA.up hb) (hA'.up hb))
  have HD := Lib.hid (show ∀ X : World, Below w.heap.size w X → Calls Tryd.prog 32 #[.slice R m d, .slice R' m' d'] X fun e w' => e = .returned (.bool (decide (p.regs = q.regs))) ∧ ∃ m, w' = X.drewN m from fun X hb => equal_regs _ _ _ _ _ _ _ _ X (hR.up hb) (hR'.up hb))
  clear hA hA' hR hR'
  have e1 : (p.fn == q.fn) = decide (p.fn = q.fn) := rfl
  have e2 : (p.addr == q.addr) = decide (p.addr = q.addr) := rfl
  have e3 : (p.count == q.count) = decide (p.count = q.count) := rfl
  have e4 : (p.to == q.to) = decide (p.to = q.to) := rfl
  obtain ⟨b1, h1⟩ : ∃ b, decide (p.fn = q.fn) = b := ⟨_, rfl⟩
  obtain ⟨b2, h2⟩ : ∃ b, decide (p.addr = q.addr) = b := ⟨_, rfl⟩
  obtain ⟨b3, h3⟩ : ∃ b, decide (p.count = q.count) = b := ⟨_, rfl⟩
  obtain ⟨b4, h4⟩ : ∃ b, decide (p.to = q.to) = b := ⟨_, rfl⟩
  obtain ⟨b5, h5⟩ : ∃ b, decide (p.bits = q.bits) = b := ⟨_, rfl⟩
  obtain ⟨b6, h6⟩ : ∃ b, decide (p.regs = q.regs) = b := ⟨_, rfl⟩
  rw [h1] at e1
  rw [h2] at e2
  rw [h3] at e3
  rw [h4] at e4
  rw [h5] at HC
  rw [h6] at HD
  rw [h1, h2, h3, h4, h5, h6]
  clear h1 h2 h3 h4 h5 h6
  have HB0 : Below w.heap.size w ((w.alloc (.cells #[.int .i64 p.fn, .int .i64 p.addr, .int .i64 p.count, .int .i64 p.to, .slice A n c, .slice R m d] 25)).alloc (.cells #[.int .i64 q.fn, .int .i64 q.addr, .int .i64 q.count, .int .i64 q.to, .slice A' n' c', .slice R' m' d'] 25)) := (((Below.refl _ w).alloc (Nat.le_refl _) _).alloc (by simp) _)
  cases b1 with
  | false =>
    go_in
    go_wp2_with (first
      | (go_at_call 31; refine (HC.out _ (by first | exact HB0 | exact below_drewN HB0 _)).mono ?_; rintro e w' ⟨rfl, m1, rfl⟩)
      | (go_at_call 32; refine (HD.out _ (by first | exact HB0 | exact below_drewN HB0 _)).mono ?_; rintro e w' ⟨rfl, m2, rfl⟩))
    go_ret
    exact ⟨rfl, by first | exact HB0 | exact below_drewN HB0 _ | exact below_drewN (below_drewN HB0 _) _⟩
  | true =>
    cases b2 with
    | false =>
      go_in
      go_wp2_with (first
      | (go_at_call 31; refine (HC.out _ (by first | exact HB0 | exact below_drewN HB0 _)).mono ?_; rintro e w' ⟨rfl, m1, rfl⟩)
      | (go_at_call 32; refine (HD.out _ (by first | exact HB0 | exact below_drewN HB0 _)).mono ?_; rintro e w' ⟨rfl, m2, rfl⟩))
      go_ret
      exact ⟨rfl, by first | exact HB0 | exact below_drewN HB0 _ | exact below_drewN (below_drewN HB0 _) _⟩
    | true =>
      cases b3 with
      | false =>
        go_in
        go_wp2_with (first
      | (go_at_call 31; refine (HC.out _ (by first | exact HB0 | exact below_drewN HB0 _)).mono ?_; rintro e w' ⟨rfl, m1, rfl⟩)
      | (go_at_call 32; refine (HD.out _ (by first | exact HB0 | exact below_drewN HB0 _)).mono ?_; rintro e w' ⟨rfl, m2, rfl⟩))
        go_ret
        exact ⟨rfl, by first | exact HB0 | exact below_drewN HB0 _ | exact below_drewN (below_drewN HB0 _) _⟩
      | true =>
        cases b4 with
        | false =>
          go_in
          go_wp2_with (first
      | (go_at_call 31; refine (HC.out _ (by first | exact HB0 | exact below_drewN HB0 _)).mono ?_; rintro e w' ⟨rfl, m1, rfl⟩)
      | (go_at_call 32; refine (HD.out _ (by first | exact HB0 | exact below_drewN HB0 _)).mono ?_; rintro e w' ⟨rfl, m2, rfl⟩))
          go_ret
          exact ⟨rfl, by first | exact HB0 | exact below_drewN HB0 _ | exact below_drewN (below_drewN HB0 _) _⟩
        | true =>
          cases b5 with
          | false =>
            go_in
            go_wp2_with (first
      | (go_at_call 31; refine (HC.out _ (by first | exact HB0 | exact below_drewN HB0 _)).mono ?_; rintro e w' ⟨rfl, m1, rfl⟩)
      | (go_at_call 32; refine (HD.out _ (by first | exact HB0 | exact below_drewN HB0 _)).mono ?_; rintro e w' ⟨rfl, m2, rfl⟩))
            go_ret
            exact ⟨rfl, by first | exact HB0 | exact below_drewN HB0 _ | exact below_drewN (below_drewN HB0 _) _⟩
          | true =>
            go_in
            go_wp2_with (first
      | (go_at_call 31; refine (HC.out _ (by first | exact HB0 | exact below_drewN HB0 _)).mono ?_; rintro e w' ⟨rfl, m1, rfl⟩)
      | (go_at_call 32; refine (HD.out _ (by first | exact HB0 | exact below_drewN HB0 _)).mono ?_; rintro e w' ⟨rfl, m2, rfl⟩))
            go_ret
            exact ⟨rfl, by first | exact HB0 | exact below_drewN HB0 _ | exact below_drewN (below_drewN HB0 _) _⟩

set_option maxRecDepth 100000 in
set_option maxHeartbeats 4000000 in
theorem same_ref (u v : Value) (p q : AskP) (w : World) (hu : AskAt w u p) (hv : AskAt w v q) :
    Calls Tryd.prog 23 #[u, v] w fun e w' => e = .returned (.bool (decide (p = q))) ∧ Below w.heap.size w w' := by
  obtain ⟨A, n, c, R, m, d, rfl, hA, hR⟩ := hu
  obtain ⟨A', n', c', R', m', d', rfl, hA', hR'⟩ := hv
  rw [ask_eq]
  have HC := Lib.hid (show ∀ X : World, Below w.heap.size w X → Calls Tryd.prog 41 #[.slice A n c, .slice A' n' c'] X fun e w' => e = .returned (.bool (decide (p.bits = q.bits))) ∧ ∃ m, w' = X.drewN m from fun X hb => bools_ref _ _ _ _ _ _ _ _ X (hA.up hb) (hA'.up hb))
  have HD := Lib.hid (show ∀ X : World, Below w.heap.size w X → Calls Tryd.prog 42 #[.slice R m d, .slice R' m' d'] X fun e w' => e = .returned (.bool (decide (p.regs = q.regs))) ∧ ∃ m, w' = X.drewN m from fun X hb => numbers_ref _ _ _ _ _ _ _ _ X (hR.up hb) (hR'.up hb))
  clear hA hA' hR hR'
  have e1 : (p.fn == q.fn) = decide (p.fn = q.fn) := rfl
  have e2 : (p.addr == q.addr) = decide (p.addr = q.addr) := rfl
  have e3 : (p.count == q.count) = decide (p.count = q.count) := rfl
  have e4 : (p.to == q.to) = decide (p.to = q.to) := rfl
  obtain ⟨b1, h1⟩ : ∃ b, decide (p.fn = q.fn) = b := ⟨_, rfl⟩
  obtain ⟨b2, h2⟩ : ∃ b, decide (p.addr = q.addr) = b := ⟨_, rfl⟩
  obtain ⟨b3, h3⟩ : ∃ b, decide (p.count = q.count) = b := ⟨_, rfl⟩
  obtain ⟨b4, h4⟩ : ∃ b, decide (p.to = q.to) = b := ⟨_, rfl⟩
  obtain ⟨b5, h5⟩ : ∃ b, decide (p.bits = q.bits) = b := ⟨_, rfl⟩
  obtain ⟨b6, h6⟩ : ∃ b, decide (p.regs = q.regs) = b := ⟨_, rfl⟩
  rw [h1] at e1
  rw [h2] at e2
  rw [h3] at e3
  rw [h4] at e4
  rw [h5] at HC
  rw [h6] at HD
  rw [h1, h2, h3, h4, h5, h6]
  clear h1 h2 h3 h4 h5 h6
  have HB0 : Below w.heap.size w ((w.alloc (.cells #[.int .i64 p.fn, .int .i64 p.addr, .int .i64 p.count, .int .i64 p.to, .slice A n c, .slice R m d] 25)).alloc (.cells #[.int .i64 q.fn, .int .i64 q.addr, .int .i64 q.count, .int .i64 q.to, .slice A' n' c', .slice R' m' d'] 25)) := (((Below.refl _ w).alloc (Nat.le_refl _) _).alloc (by simp) _)
  cases b1 with
  | false =>
    go_in
    go_wp2_with (first
      | (go_at_call 41; refine (HC.out _ (by first | exact HB0 | exact below_drewN HB0 _)).mono ?_; rintro e w' ⟨rfl, m1, rfl⟩)
      | (go_at_call 42; refine (HD.out _ (by first | exact HB0 | exact below_drewN HB0 _)).mono ?_; rintro e w' ⟨rfl, m2, rfl⟩))
    go_ret
    exact ⟨rfl, by first | exact HB0 | exact below_drewN HB0 _ | exact below_drewN (below_drewN HB0 _) _⟩
  | true =>
    cases b2 with
    | false =>
      go_in
      go_wp2_with (first
      | (go_at_call 41; refine (HC.out _ (by first | exact HB0 | exact below_drewN HB0 _)).mono ?_; rintro e w' ⟨rfl, m1, rfl⟩)
      | (go_at_call 42; refine (HD.out _ (by first | exact HB0 | exact below_drewN HB0 _)).mono ?_; rintro e w' ⟨rfl, m2, rfl⟩))
      go_ret
      exact ⟨rfl, by first | exact HB0 | exact below_drewN HB0 _ | exact below_drewN (below_drewN HB0 _) _⟩
    | true =>
      cases b3 with
      | false =>
        go_in
        go_wp2_with (first
      | (go_at_call 41; refine (HC.out _ (by first | exact HB0 | exact below_drewN HB0 _)).mono ?_; rintro e w' ⟨rfl, m1, rfl⟩)
      | (go_at_call 42; refine (HD.out _ (by first | exact HB0 | exact below_drewN HB0 _)).mono ?_; rintro e w' ⟨rfl, m2, rfl⟩))
        go_ret
        exact ⟨rfl, by first | exact HB0 | exact below_drewN HB0 _ | exact below_drewN (below_drewN HB0 _) _⟩
      | true =>
        cases b4 with
        | false =>
          go_in
          go_wp2_with (first
      | (go_at_call 41; refine (HC.out _ (by first | exact HB0 | exact below_drewN HB0 _)).mono ?_; rintro e w' ⟨rfl, m1, rfl⟩)
      | (go_at_call 42; refine (HD.out _ (by first | exact HB0 | exact below_drewN HB0 _)).mono ?_; rintro e w' ⟨rfl, m2, rfl⟩))
          go_ret
          exact ⟨rfl, by first | exact HB0 | exact below_drewN HB0 _ | exact below_drewN (below_drewN HB0 _) _⟩
        | true =>
          cases b5 with
          | false =>
            go_in
            go_wp2_with (first
      | (go_at_call 41; refine (HC.out _ (by first | exact HB0 | exact below_drewN HB0 _)).mono ?_; rintro e w' ⟨rfl, m1, rfl⟩)
      | (go_at_call 42; refine (HD.out _ (by first | exact HB0 | exact below_drewN HB0 _)).mono ?_; rintro e w' ⟨rfl, m2, rfl⟩))
            go_ret
            exact ⟨rfl, by first | exact HB0 | exact below_drewN HB0 _ | exact below_drewN (below_drewN HB0 _) _⟩
          | true =>
            go_in
            go_wp2_with (first
      | (go_at_call 41; refine (HC.out _ (by first | exact HB0 | exact below_drewN HB0 _)).mono ?_; rintro e w' ⟨rfl, m1, rfl⟩)
      | (go_at_call 42; refine (HD.out _ (by first | exact HB0 | exact below_drewN HB0 _)).mono ?_; rintro e w' ⟨rfl, m2, rfl⟩))
            go_ret
            exact ⟨rfl, by first | exact HB0 | exact below_drewN HB0 _ | exact below_drewN (below_drewN HB0 _) _⟩

set_option maxRecDepth 100000 in
set_option maxHeartbeats 4000000 in
theorem samer_ref (u v : Value) (p q : RepP) (w : World) (hu : RepAt w u p) (hv : RepAt w v q) :
    Calls Tryd.prog 17 #[u, v] w fun e w' => e = .returned (.bool (decide (p = q))) ∧ Below w.heap.size w w' := by
  obtain ⟨A, n, c, R, m, d, rfl, hA, hR⟩ := hu
  obtain ⟨A', n', c', R', m', d', rfl, hA', hR'⟩ := hv
  rw [rep_eq]
  have HC := Lib.hid (show ∀ X : World, Below w.heap.size w X → Calls Tryd.prog 41 #[.slice A n c, .slice A' n' c'] X fun e w' => e = .returned (.bool (decide (p.bits = q.bits))) ∧ ∃ m, w' = X.drewN m from fun X hb => bools_ref _ _ _ _ _ _ _ _ X (hA.up hb) (hA'.up hb))
  have HD := Lib.hid (show ∀ X : World, Below w.heap.size w X → Calls Tryd.prog 42 #[.slice R m d, .slice R' m' d'] X fun e w' => e = .returned (.bool (decide (p.regs = q.regs))) ∧ ∃ m, w' = X.drewN m from fun X hb => numbers_ref _ _ _ _ _ _ _ _ X (hR.up hb) (hR'.up hb))
  clear hA hA' hR hR'
  have e1 : (p.fn == q.fn) = decide (p.fn = q.fn) := rfl
  have e2 : (p.code == q.code) = decide (p.code = q.code) := rfl
  obtain ⟨b1, h1⟩ : ∃ b, decide (p.fn = q.fn) = b := ⟨_, rfl⟩
  obtain ⟨b2, h2⟩ : ∃ b, decide (p.code = q.code) = b := ⟨_, rfl⟩
  obtain ⟨b3, h3⟩ : ∃ b, decide (p.bits = q.bits) = b := ⟨_, rfl⟩
  obtain ⟨b4, h4⟩ : ∃ b, decide (p.regs = q.regs) = b := ⟨_, rfl⟩
  rw [h1] at e1
  rw [h2] at e2
  rw [h3] at HC
  rw [h4] at HD
  rw [h1, h2, h3, h4]
  clear h1 h2 h3 h4
  have HB0 : Below w.heap.size w ((w.alloc (.cells #[.int .i64 p.fn, .int .i64 p.code, .slice A n c, .slice R m d] 34)).alloc (.cells #[.int .i64 q.fn, .int .i64 q.code, .slice A' n' c', .slice R' m' d'] 34)) := (((Below.refl _ w).alloc (Nat.le_refl _) _).alloc (by simp) _)
  cases b1 with
  | false =>
    go_in
    go_wp2_with (first
      | (go_at_call 41; refine (HC.out _ (by first | exact HB0 | exact below_drewN HB0 _)).mono ?_; rintro e w' ⟨rfl, m1, rfl⟩)
      | (go_at_call 42; refine (HD.out _ (by first | exact HB0 | exact below_drewN HB0 _)).mono ?_; rintro e w' ⟨rfl, m2, rfl⟩))
    go_ret
    exact ⟨rfl, by first | exact HB0 | exact below_drewN HB0 _ | exact below_drewN (below_drewN HB0 _) _⟩
  | true =>
    cases b2 with
    | false =>
      go_in
      go_wp2_with (first
      | (go_at_call 41; refine (HC.out _ (by first | exact HB0 | exact below_drewN HB0 _)).mono ?_; rintro e w' ⟨rfl, m1, rfl⟩)
      | (go_at_call 42; refine (HD.out _ (by first | exact HB0 | exact below_drewN HB0 _)).mono ?_; rintro e w' ⟨rfl, m2, rfl⟩))
      go_ret
      exact ⟨rfl, by first | exact HB0 | exact below_drewN HB0 _ | exact below_drewN (below_drewN HB0 _) _⟩
    | true =>
      cases b3 with
      | false =>
        go_in
        go_wp2_with (first
      | (go_at_call 41; refine (HC.out _ (by first | exact HB0 | exact below_drewN HB0 _)).mono ?_; rintro e w' ⟨rfl, m1, rfl⟩)
      | (go_at_call 42; refine (HD.out _ (by first | exact HB0 | exact below_drewN HB0 _)).mono ?_; rintro e w' ⟨rfl, m2, rfl⟩))
        go_ret
        exact ⟨rfl, by first | exact HB0 | exact below_drewN HB0 _ | exact below_drewN (below_drewN HB0 _) _⟩
      | true =>
        go_in
        go_wp2_with (first
      | (go_at_call 41; refine (HC.out _ (by first | exact HB0 | exact below_drewN HB0 _)).mono ?_; rintro e w' ⟨rfl, m1, rfl⟩)
      | (go_at_call 42; refine (HD.out _ (by first | exact HB0 | exact below_drewN HB0 _)).mono ?_; rintro e w' ⟨rfl, m2, rfl⟩))
        go_ret
        exact ⟨rfl, by first | exact HB0 | exact below_drewN HB0 _ | exact below_drewN (below_drewN HB0 _) _⟩

end Go.Proofs.YtflbiichdjhaeaaDoor
