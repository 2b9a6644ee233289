/- The poller's calls as the statements make them: Step at Next's tick, Asking, Offline, Hear. -/
import Derived.Test.YtcipleanckeoaaaDoorPolO
import Derived.Test.YtcipleanckeoaaaDoorPolE
import Derived.Test.YtcipleanckeoaaaDoorPolG
import Derived.Test.YtcipleanckeoaaaDoorPolH
namespace Go.Proofs.YtcipleanckeoaaaDoor
open Go.RowKit
attribute [local go_sem] Oper.semAt_some
set_option linter.unusedVariables false
set_option linter.unusedSimpArgs false
set_option maxRecDepth 100000
theorem stepn_any (g gl cap : Nat) (c : PCf) (hc : c.ok) (N : Nat) (s : PSt) (last : List Int) (M m : Int) (w : World) (hT : LimT w) (hG : 1 ≠ g ∧ 1 ≠ gl) (h : PolAt w g gl cap c s) (hI : PInv c N s last M) (hN : 1 ≤ N ∧ N ≤ 1000) (hM : M ≤ 4000000000000000000) (hB : PtsB s m) (hm : m ≤ 1000000) :
    Calls Tryd.prog 36 #[.pointer (some ⟨g, 0, none⟩), .int .i64 (nextP c s)] w (StepPost w g gl cap c (stepP c s (nextP c s))) := by
  have hb := (hI.step hc hN.1 (M + 148000000000) (Int.le_refl _)).1
  have hl := hI.ln
  have hn := hI.nw
  have ha := hI.aw
  rcases hI.stepk hc hN.1 with ⟨k, x, hw, ha2, ho, hx, hbeg, hs⟩ | ⟨k, x, hw, ha2, ho, hx, hs⟩ | ⟨k, x, hw, ha2, ho, hx, htr, hs⟩
  · rw [hs]
    exact step_idle g gl cap c hc s _ k x w hT hG h (by omega) (by omega) hn.1 hb.1 (by omega) hw ha2 ho hx (hB k x hx).1 hbeg (fun i y hy => by have := hB i y hy; omega)
  · rw [hs]
    exact step_late g gl cap c s _ k x w h (by omega) hb.1 (by omega) hn.1 hc hw ha2 ha.1 ho hx (by have := hB k x hx; omega)
  · rw [hs]
    exact step_retry g gl cap c s _ k x w hT hG h (by omega) hb.1 (by omega) hw ha2 ho hx (hB k x hx).1 (by omega)
theorem askingn_any (g gl cap : Nat) (c : PCf) (s : PSt) (w : World) (h : PolAt w g gl cap c s) (hn : 0 < s.l.length) (ho : -1 ≤ s.opn) :
    Calls Tryd.prog 37 #[.pointer (some ⟨g, 0, none⟩)] w fun e w' => e = .returned (.tuple #[.int .i64 s.opn, .int .i64 (triV s)]) ∧ ∃ n, w' = w.drewN n := by
  refine (asking_any g gl cap c s w h hn).mono ?_
  rintro e w' ⟨rfl, hw⟩
  refine ⟨?_, hw⟩
  unfold triV
  by_cases h0 : s.opn < 0
  · rw [if_pos h0, if_pos h0]
    have : s.opn = -1 := by omega
    rw [this]
  · rw [if_neg h0, if_neg h0]
/-- Quiet calls that draw, in a region that only reads. -/
theorem quiet_more {P : Program} {f : FuncId} {args : Array Value} {w : World} {n : Nat} {v : Value}
    (h : Calls P f args (w.drewN n) fun e w' => e = .returned v ∧ ∃ m, w' = (w.drewN n).drewN m) : Calls P f args (w.drewN n) fun e w'' => e = .returned v ∧ ∃ m, w'' = w.drewN m :=
  h.mono fun _ _ ⟨he, m, hm⟩ => ⟨he, n + m, by rw [hm, World.drewN_drewN]⟩
theorem quiet_add_more {P : Program} {f : FuncId} {args : Array Value} {w : World} {a n : Nat} {v : Value}
    (h : Calls P f args (w.drewN (a + n)) fun e w' => e = .returned v ∧ ∃ m, w' = (w.drewN (a + n)).drewN m) :
    Calls P f args (w.drewN (a + n)) fun e w'' => e = .returned v ∧ ∃ m, w'' = w.drewN (a + m) :=
  h.mono fun _ _ ⟨he, m, hm⟩ => ⟨he, n + m, by rw [hm, World.drewN_drewN, Nat.add_assoc]⟩
theorem drewN_below {w w' : World} {n : Nat} (h : w' = w.drewN n) : Below w.heap.size w w' := by rw [h]; exact below_drewN (Below.refl _ _) n
def offO (c : PCf) (s : PSt) (k : Int) : Bool := if k < 0 then false else match s.l[k.toNat]? with | none => false | some x => offB c x
theorem offO_nat (c : PCf) (s : PSt) (k : Nat) (x : PPt) (hx : s.l[k]? = some x) : offO c s k = offB c x := by
  unfold offO
  rw [if_neg (by omega), Int.toNat_natCast, hx]
theorem offlinen_any (g gl cap : Nat) (c : PCf) (s : PSt) (k : Int) (w : World) (h : PolAt w g gl cap c s) (hk : -1 ≤ k ∧ k < s.l.length) :
    Calls Tryd.prog 39 #[.pointer (some ⟨g, 0, none⟩), .int .i64 k] w fun e w' => e = .returned (.bool (offO c s k)) ∧ ∃ n, w' = w.drewN n := by
  by_cases h0 : k < 0
  · have := Offline_none g gl cap c s k h0 w h
    unfold offO
    rw [if_pos h0]
    exact this
  · obtain ⟨j, rfl⟩ : ∃ j : Nat, k = j := ⟨k.toNat, by omega⟩
    obtain ⟨x, hx⟩ : ∃ x, s.l[j]? = some x := ⟨_, List.getElem?_eq_getElem (by omega)⟩
    have := Offline_any g gl cap c s j x w h hx
    rw [offO_nat c s j x hx]
    exact this
/-- What Hear tells of a frame, and does. -/
def HearN (w : World) (g gl cap : Nat) (c : PCf) (s : PSt) (e : Ending) (w' : World) : Prop :=
  ∃ (p v : Int) (is : Bool) (s' : PSt), e = .returned (.tuple #[.agg #[.int .i64 p, .int .u32 v], .bool is, .int .i64 0]) ∧ PolAt w' g gl cap c s' ∧ Bt g gl w w' ∧ HearR c s s'
theorem hearn_any (g gl cap : Nat) (c : PCf) (hc : c.ok) (N : Nat) (s : PSt) (last : List Int) (M m unit : Int) (B : Option Addr) (n cc : Nat) (b : List Int) (w : World) (hT : LimT w) (hG : 1 ≠ g ∧ 1 ≠ gl) (h : PolAt w g gl cap c s) (hI : PInv c N s last M) (hN : 1 ≤ N ∧ N ≤ 1000) (hM : M ≤ 4000000000000000000) (hB : PtsB s m) (hm : m ≤ 1000000) (hbg : 0 ≤ s.began ∧ s.began ≤ 4611686018427387904)
    (hS : SlI w w.heap.size .u8 B n cc b) (hb8 : Byte8 b) (hnn : n ≤ 1000) :
    Calls Tryd.prog 40 #[.pointer (some ⟨g, 0, none⟩), .int .i64 s.now, .agg #[.int .i64 unit, .slice B n cc]] w (HearN w g gl cap c s) := by
  have hl := hI.ln
  have hn := hI.nw
  have ha := hI.aw
  refine (hear_any g gl cap c hc s s.now unit B n cc b w hT hG h (by omega) (Int.le_refl _) (by omega) hn.1 (by omega) hbg (fun hw => ?_) hS hb8 hnn).mono ?_
  · rcases hI.op with ⟨_, hw2, _⟩ | ⟨k, hO⟩
    · rw [hw] at hw2; cases hw2
    · obtain ⟨h1, h2, h3, ⟨x, hx, _⟩, _⟩ := hO
      have := hB k x hx
      exact ⟨k, x, h1, hx, this.1, by omega, by omega⟩
  · rintro e w' ⟨p, v, is, s', rfl, k1, k2, k3, _⟩
    exact ⟨p, v, is, s', rfl, k1, k2, k3⟩
theorem began_fail (c : PCf) (s : PSt) : (failP c s).1.began = s.began := by
  unfold failP
  split
  · rfl
  · split <;> rfl
theorem began_hear (c : PCf) (s s' : PSt) (h : HearR c s s') : s'.began = s.began := by
  rcases h with rfl | ⟨_, _, rfl | rfl⟩
  · rfl
  · exact began_fail c s
  · unfold heardP; split <;> rfl
theorem began_step (c : PCf) (s : PSt) (t : Int) : (stepP c s t).1.began = s.began ∨ (stepP c s t).1.began = t := by
  have hL : (lateP c s t).1.began = s.began ∧ (lateP c s t).1.now = t := by
    unfold lateP
    split
    · refine ⟨(began_fail c _).trans rfl, ?_⟩
      unfold failP
      split
      · rfl
      · split <;> rfl
    · exact ⟨rfl, rfl⟩
  show (goP c (lateP c s t).1 t).1.began = _ ∨ (goP c (lateP c s t).1 t).1.began = _
  generalize (lateP c s t).1 = s1 at hL
  obtain ⟨h1, h2⟩ := hL
  unfold goP
  split
  · exact .inl h1
  · split
    · split
      · rename_i hb
        unfold beginP at hb ⊢
        split at hb
        · cases hb
        · split at hb
          · cases hb
          · rename_i hx hn
            rw [if_neg hn]
            right
            show s1.now = t
            exact h2
      · exact .inl h1
    · exact .inl h1
end Go.Proofs.YtcipleanckeoaaaDoor
