/- The plain law of right bytes: what is asked by a frame and answered by registers. -/
import Derived.Test.YtcipleanckeoaaaDoorBusPlayP
import Derived.Test.YtcipleanckeoaaaDoorPduBytes
import Derived.Laws.BitsAllLaws
import Derived.Test.YtcipleanckeoaaaDoorPduBase
namespace Go.Proofs.YtcipleanckeoaaaDoor
open Go.RowKit
set_option linter.unusedVariables false
set_option linter.unusedSimpArgs false
theorem open_seal (l : List Int) : openL (sealL l) = some l := by
  unfold openL
  have e : (sealL l).take ((sealL l).length - 2) = l := by
    rw [sealL_len, Nat.add_sub_cancel]
    unfold sealL
    exact List.take_left
  rw [e, if_pos ⟨by rw [sealL_len]; omega, rfl⟩]
theorem readR_seal (u : Int) (p : List Int) (hu : u ≤ 247) (h1 : 1 ≤ p.length) (h2 : p.length ≤ 253) : readR (rtuL u p) = some (u, p) := by
  unfold readR rtuL
  rw [open_seal]
  dsimp only
  rw [if_pos ⟨by simp; omega, by simp; omega, by simpa using hu⟩]
  simp
/-- A request for registers. -/
def askA (addr count : Int) : AskP := ⟨3, addr, count, 0, [], []⟩
def repA (regs : List Int) : RepP := ⟨3, 0, [], regs⟩
def ansA (regs : List Int) : List Int := 3 :: (2 * (regs.length : Int)) :: twosI regs
theorem answer_ask (addr : Int) (regs : List Int) (hm : mayP (askA addr regs.length) = true) : answerP (askA addr regs.length) (repA regs) = some (ansA regs) := by
  unfold answerP
  rw [hm]
  unfold askA repA wantB wantR ansA
  simp
theorem count_ask {addr count : Int} (hm : mayP (askA addr count) = true) : 1 ≤ count ∧ count ≤ 125 := by
  have h := (may_cases _ hm).2
  unfold askA at h
  dsimp only at h
  omega
theorem right_ask (u addr : Int) (regs : List Int) (hu : 1 ≤ u ∧ u ≤ 247) (hm : mayP (askA addr regs.length) = true) : rightP (rtuL u (bytesP (askA addr regs.length))) regs (-1) = rtuL u (ansA regs) := by
  obtain ⟨r1, r2, r3, r4, r5, r6⟩ := read_bytes _ hm
  have hc := count_ask hm
  have hl : (ansA regs).length = 2 + 2 * regs.length := by unfold ansA; simp [twosI_len]; omega
  unfold rightP
  rw [readR_seal u _ hu.2 (by omega) r3]
  dsimp only
  rw [if_neg (by omega), r1]
  have e3 : (askA addr regs.length).fn = 3 := rfl
  rw [if_neg (by rw [e3]; simp)]
  have := answer_ask addr regs hm
  unfold repA at this
  rw [e3, this]
  dsimp only
  unfold rtuB
  rw [show (if (-1 : Int) < 0 then u else -1) = u from if_pos (by decide), if_pos ⟨⟨by omega, hu.2⟩, by omega, by omega⟩]
  rfl
/-- What the right bytes say. -/
theorem read_ask (u addr : Int) (regs : List Int) (hu : 1 ≤ u ∧ u ≤ 247) (hr : Reg16 regs) (hm : mayP (askA addr regs.length) = true) : readR (rtuL u (ansA regs)) = some (u, ansA regs) ∧ readAnswerP (askA addr regs.length) (ansA regs) = some (repA regs) ∧ Byte8 (ansA regs) ∧ (ansA regs).length = 2 + 2 * regs.length := by
  have hc := count_ask hm
  have hl : (ansA regs).length = 2 + 2 * regs.length := by unfold ansA; simp [twosI_len]; omega
  obtain ⟨q1, q2, q3, q4, q5⟩ := reply_read (askA addr regs.length) (repA regs) (ansA regs) hr (fun x hx => by cases hx) (answer_ask addr regs hm)
  exact ⟨readR_seal u _ hu.2 (by omega) (by omega), q1, q4, hl⟩
def actR (kind : Int) (regs : List Int) (n wth : Int) : ActP := ⟨kind, 0, 0, regs, 0, n, 0, wth, []⟩
theorem may_actR {kind : Int} {regs : List Int} {n wth : Int} (h : (kind = 1 ∧ n = 0 ∧ wth = 0) ∨ (kind = 4 ∧ wth = 0) ∨ (kind = 5 ∧ 0 < wth)) (hn : 0 ≤ n ∧ n ≤ 1000) (hl : regs.length ≤ 125) : mayA (actR kind regs n wth) = true := by
  refine decide_eq_true ?_
  unfold mayQ actR
  dsimp only
  refine ⟨by omega, by omega, by omega, hl, by simp, hn, by omega, by omega, by simp, by omega, by omega, by omega, by omega, by omega⟩
/-- The chapter's first examples. -/
theorem may17 : mayP (askA 0 1) = true := by decide
def ask17 : List Int := rtuL 17 (bytesP (askA 0 1))
def ans17 : List Int := rtuL 17 (ansA [9])
theorem right17 : rightP ask17 [9] (-1) = ans17 := right_ask 17 0 [9] (by omega) may17
theorem ask17_rtu : (rtuB 17 (askL (askA 0 1))).getD [] = ask17 := by
  have h1 : askL (askA 0 1) = bytesP (askA 0 1) := by unfold askL; rw [if_pos may17]
  rw [h1]
  unfold rtuB
  rw [if_pos (by decide)]
  rfl
theorem ask17_len : ask17.length = 8 := by decide
theorem ans17_len : ans17.length = 7 := by decide
theorem ans17_five : ans17.take 5 = [17, 3, 2, 0, 9] := rfl
def act17 (wait gap : Int) : ActP := ⟨1, wait, gap, [9], 0, 0, 0, 0, []⟩
set_option maxRecDepth 10000 in
theorem may_act17 : mayA (act17 5 0) = true ∧ mayA (act17 0 2) = true := by constructor <;> (refine decide_eq_true ?_; unfold mayQ act17; dsimp only; simp)
set_option maxRecDepth 100000 in
theorem bytes17 (wait gap : Int) (h : mayA (act17 wait gap) = true) : bytesA ask17 (act17 wait gap) = ans17 := by
  unfold bytesA
  rw [h]
  simp only [act17]
  exact right17
set_option maxRecDepth 100000 in
theorem play17a : playL 10 ask17 [act17 5 0] = [(15, ans17)] := by
  unfold playL
  simp only [List.flatMap_cons, List.flatMap_nil, List.append_nil]
  unfold actL
  rw [bytes17 5 0 may_act17.1, if_neg (by intro h; have := ans17_len; rw [h] at this; cases this), if_neg (by simp [act17])]
  simp [act17]
set_option maxRecDepth 100000 in
theorem play17b : playL 10 ask17 [act17 0 2] = [(10, ans17.take 3), (12, ans17.drop 3)] := by
  unfold playL
  simp only [List.flatMap_cons, List.flatMap_nil, List.append_nil]
  unfold actL
  rw [bytes17 0 2 may_act17.2, if_neg (by intro h; have := ans17_len; rw [h] at this; cases this), if_pos (by rw [ans17_len]; simp [act17]), ans17_len]
  simp [act17]
end Go.Proofs.YtcipleanckeoaaaDoor
namespace Go.Proofs.YtcipleanckeoaaaDoor
open Go.RowKit
set_option linter.unusedVariables false
set_option linter.unusedSimpArgs false
theorem xor8_ne (x w : Int) (hx : 0 ≤ x ∧ x < 256) (hw : 0 < w ∧ w < 256) : Go.bits BinOp.xor IntKind.u8 x w ≠ x ∧ 0 ≤ Go.bits BinOp.xor IntKind.u8 x w ∧ Go.bits BinOp.xor IntKind.u8 x w < 256 := by
  obtain ⟨a, rfl⟩ : ∃ a : Nat, x = a := ⟨x.toNat, by omega⟩
  obtain ⟨b, rfl⟩ : ∃ b : Nat, w = b := ⟨w.toNat, by omega⟩
  have h : a ^^^ b < 256 := Nat.xor_lt_two_pow (n := 8) (by omega) (by omega)
  rw [u8_xor_nat a b (by omega) (by omega)]
  refine ⟨fun e => ?_, by omega, by omega⟩
  have e2 : a ^^^ b = a := by omega
  have e3 : a ^^^ (a ^^^ b) = b := by rw [← Nat.xor_assoc, Nat.xor_self, Nat.zero_xor]
  rw [e2, Nat.xor_self] at e3
  omega
theorem spoil_facts (out : List Int) (n w : Int) (h8 : Byte8 out) (hl : 0 < out.length) (hw : 0 < w ∧ w < 256) : spoilL out n w ≠ out ∧ (spoilL out n w).length = out.length ∧ Byte8 (spoilL out n w) := by
  have hj : n.toNat % out.length < out.length := Nat.mod_lt _ hl
  obtain ⟨j, hjj⟩ : ∃ j, n.toNat % out.length = j := ⟨_, rfl⟩
  unfold spoilL
  rw [hjj] at hj ⊢
  obtain ⟨x, hx⟩ : ∃ x, out[j]? = some x := ⟨_, List.getElem?_eq_getElem hj⟩
  have hg : out.getD j 0 = x := by rw [List.getD_eq_getElem?_getD, hx]; rfl
  obtain ⟨q1, q2, q3⟩ := xor8_ne x w (h8 x (List.mem_of_getElem? hx)) hw
  rw [hg]
  refine ⟨fun e => ?_, by simp, fun y hy => ?_⟩
  · have h := congrArg (fun l => l[j]?) e
    simp only [List.getElem?_set_self hj, hx, Option.some.injEq] at h
    exact q1 h
  · rcases List.mem_or_eq_of_mem_set hy with h | h
    · exact h8 y h
    · rw [h]; exact ⟨q2, q3⟩
theorem actR_1 (req regs : List Int) (hl : regs.length ≤ 125) : bytesA req (actR 1 regs 0 0) = rightP req regs (-1) := by
  unfold bytesA
  rw [may_actR (.inl ⟨rfl, rfl, rfl⟩) (by omega) hl]
  simp only [actR]
  rfl
theorem actR_4 (req regs : List Int) (n : Int) (hn : 0 ≤ n ∧ n ≤ 1000) (hl : regs.length ≤ 125) : bytesA req (actR 4 regs n 0) = (rightP req regs (-1)).take n.toNat := by
  unfold bytesA
  rw [may_actR (.inr (.inl ⟨rfl, rfl⟩)) hn hl]
  simp only [actR]
  rfl
theorem actR_5 (req regs : List Int) (n w : Int) (hn : 0 ≤ n ∧ n ≤ 1000) (hw : 0 < w) (hl : regs.length ≤ 125) : bytesA req (actR 5 regs n w) = spoilL (rightP req regs (-1)) n w := by
  unfold bytesA
  rw [may_actR (.inr (.inr ⟨rfl, hw⟩)) hn hl]
  simp only [actR]
  rfl
theorem seal_8 (u : Int) (p : List Int) (hu : 0 ≤ u ∧ u ≤ 247) (hp : Byte8 p) : Byte8 (rtuL u p) := by
  unfold rtuL sealL
  have hc : crcL (u :: p) < 65536 := crcL_lt _
  intro x hx
  rcases List.mem_append.mp hx with h | h
  · rcases List.mem_cons.mp h with h | h
    · rw [h]; omega
    · exact hp x h
  · simp at h
    omega
end Go.Proofs.YtcipleanckeoaaaDoor
namespace Go.Proofs.YtcipleanckeoaaaDoor
open Go.RowKit

set_option maxRecDepth 100000 in
set_option maxHeartbeats 4000000 in
theorem samer_own (u v : Value) (p q : RepP) (w : World) (hu : RepAt w u p) (hv : RepAt w v q) :
    Calls Tryd.prog 31 #[u, v] w fun e w' => e = .returned (.bool (decide (p = q))) ∧ Below w.heap.size w w' := by
  obtain ⟨A, n, c, R, m, d, rfl, hA, hR⟩ := hu
  obtain ⟨A', n', c', R', m', d', rfl, hA', hR'⟩ := hv
  rw [rep_eq]
  have HC := Lib.hid (show ∀ X : World, Below w.heap.size w X → Calls Tryd.prog 72 #[.slice A n c, .slice A' n' c'] X fun e w' => e = .returned (.bool (decide (p.bits = q.bits))) ∧ ∃ m, w' = X.drewN m from fun X hb => equal_bools _ _ _ _ _ _ _ _ X (hA.up hb) (hA'.up hb))
  have HD := Lib.hid (show ∀ X : World, Below w.heap.size w X → Calls Tryd.prog 73 #[.slice R m d, .slice R' m' d'] X fun e w' => e = .returned (.bool (decide (p.regs = q.regs))) ∧ ∃ m, w' = X.drewN m from fun X hb => equal_regs _ _ _ _ _ _ _ _ X (hR.up hb) (hR'.up hb))
  clear hA hA' hR hR'
  have e1 : (p.fn == q.fn) = decide (p.fn = q.fn) := rfl
  have e2 : (p.code == q.code) = decide (p.code = q.code) := rfl
  obtain ⟨b1, h1⟩ : ∃ b, decide (p.fn = q.fn) = b := ⟨_, rfl⟩
  obtain ⟨b2, h2⟩ : ∃ b, decide (p.code = q.code) = b := ⟨_, rfl⟩
  obtain ⟨b3, h3⟩ : ∃ b, decide (p.bits = q.bits) = b := ⟨_, rfl⟩
  obtain ⟨b4, h4⟩ : ∃ b, decide (p.regs = q.regs) = b := ⟨_, rfl⟩
  rw [h1] at e1
  rw [h2] at e2
  rw [h3] at HC
  rw [h4] at HD
  rw [h1, h2, h3, h4]
  clear h1 h2 h3 h4
  have HB0 : Below w.heap.size w ((w.alloc (.cells #[.int .i64 p.fn, .int .i64 p.code, .slice A n c, .slice R m d] 68)).alloc (.cells #[.int .i64 q.fn, .int .i64 q.code, .slice A' n' c', .slice R' m' d'] 68)) := (((Below.refl _ w).alloc (Nat.le_refl _) _).alloc (by simp) _)
  cases b1 with
  | false =>
    go_in
    go_wp2_with (first
      | (go_at_call 72; refine (HC.out _ (by first | exact HB0 | exact below_drewN HB0 _)).mono ?_; rintro e w' ⟨rfl, m1, rfl⟩)
      | (go_at_call 73; refine (HD.out _ (by first | exact HB0 | exact below_drewN HB0 _)).mono ?_; rintro e w' ⟨rfl, m2, rfl⟩))
    go_ret
    exact ⟨rfl, by first | exact HB0 | exact below_drewN HB0 _ | exact below_drewN (below_drewN HB0 _) _⟩
  | true =>
    cases b2 with
    | false =>
      go_in
      go_wp2_with (first
      | (go_at_call 72; refine (HC.out _ (by first | exact HB0 | exact below_drewN HB0 _)).mono ?_; rintro e w' ⟨rfl, m1, rfl⟩)
      | (go_at_call 73; refine (HD.out _ (by first | exact HB0 | exact below_drewN HB0 _)).mono ?_; rintro e w' ⟨rfl, m2, rfl⟩))
      go_ret
      exact ⟨rfl, by first | exact HB0 | exact below_drewN HB0 _ | exact below_drewN (below_drewN HB0 _) _⟩
    | true =>
      cases b3 with
      | false =>
        go_in
        go_wp2_with (first
      | (go_at_call 72; refine (HC.out _ (by first | exact HB0 | exact below_drewN HB0 _)).mono ?_; rintro e w' ⟨rfl, m1, rfl⟩)
      | (go_at_call 73; refine (HD.out _ (by first | exact HB0 | exact below_drewN HB0 _)).mono ?_; rintro e w' ⟨rfl, m2, rfl⟩))
        go_ret
        exact ⟨rfl, by first | exact HB0 | exact below_drewN HB0 _ | exact below_drewN (below_drewN HB0 _) _⟩
      | true =>
        go_in
        go_wp2_with (first
      | (go_at_call 72; refine (HC.out _ (by first | exact HB0 | exact below_drewN HB0 _)).mono ?_; rintro e w' ⟨rfl, m1, rfl⟩)
      | (go_at_call 73; refine (HD.out _ (by first | exact HB0 | exact below_drewN HB0 _)).mono ?_; rintro e w' ⟨rfl, m2, rfl⟩))
        go_ret
        exact ⟨rfl, by first | exact HB0 | exact below_drewN HB0 _ | exact below_drewN (below_drewN HB0 _) _⟩

end Go.Proofs.YtcipleanckeoaaaDoor
