/- The statements' frame: what is heard. -/
import Derived.Test.YtcipleanckeoaaaDoorPolQ
import Derived.Test.YtcipleanckeoaaaDoorPolM
import Derived.Test.YtcipleanckeoaaaDoorPduRefAnswer
namespace Go.Proofs.YtcipleanckeoaaaDoor
open Go.RowKit
attribute [local go_sem] Oper.semAt_some
set_option linter.unusedVariables false
set_option linter.unusedSimpArgs false
set_option maxRecDepth 100000
/-- What a frame is. -/
def FramePost (w : World) (e : Ending) (w' : World) : Prop := ∃ (u : Int) (B : Option Addr) (m cm : Nat) (b : List Int), e = .returned (.agg #[.int .i64 u, .slice B m cm]) ∧ SlI w' w'.heap.size .u8 B m cm b ∧ Byte8 b ∧ m ≤ 1000 ∧ Below w.heap.size w w'
theorem answer_small (x : PPt) (hx : x.ok) (r : RepP) (hr : Reg16 r.regs) : Byte8 ((answerP x.ask r).getD []) ∧ ((answerP x.ask r).getD []).length ≤ 10 := by
  obtain ⟨_, hf, _, hm⟩ := hx
  have hfn : x.ask.fn = x.fn := rfl
  unfold answerP
  rw [hm, hfn]
  have h1 : ¬ (x.fn = 1 ∨ x.fn = 2) := by omega
  have h2 : ¬ (x.fn = 5 ∨ x.fn = 6) := by omega
  have h3 : ¬ (x.fn = 15 ∨ x.fn = 16) := by omega
  rw [if_neg h1, if_neg h2, if_neg h3]
  split
  · exact ⟨(fun y hy => by cases hy), by simp⟩
  · split
    · split
      · exact ⟨(fun y hy => by cases hy), by simp⟩
      · rename_i hc
        refine ⟨fun y hy => ?_, by simp⟩
        simp at hy
        omega
    · split
      · exact ⟨(fun y hy => by cases hy), by simp⟩
      · rename_i hc
        have hw : wantR x.ask = 2 := by unfold wantR; rw [if_pos (by rw [hfn]; omega)]; rfl
        have hl : r.regs.length = 2 := by omega
        refine ⟨fun y hy => ?_, ?_⟩
        · simp only [Option.getD_some, List.mem_cons] at hy
          rcases hy with rfl | rfl | hy
          · omega
          · omega
          · exact byte8_twos hr y hy
        · simp only [Option.getD_some, List.length_cons, twosI_len]
          omega
theorem fset2 {W : World} {B : Nat} {T : TypeId} {a b : Value} (h : Held W B T #[a, b]) (a' b' : Value) : Held ((W.setCell ⟨B, 0, none⟩ a').setCell ⟨B, 1, none⟩ b') B T #[a', b'] := by
  have h3 := (h.set 0 a').set 1 b'
  simpa using h3
theorem aska_at (x : PPt) (W : World) : AskAt W (.agg #[.int .i64 x.fn, .int .i64 x.addr, .int .i64 2, .int .i64 0, .slice none 0 0, .slice none 0 0]) x.ask := ⟨none, 0, 0, none, 0, 0, rfl, SlB.nil _ _, SlI.nil _ _ _⟩
theorem repc_at (x : PPt) (cd : Int) (W : World) : RepAt W (.agg #[.int .i64 x.fn, .int .i64 cd, .slice none 0 0, .slice none 0 0]) ⟨x.fn, cd, [], []⟩ := ⟨none, 0, 0, none, 0, 0, rfl, SlB.nil _ _, SlI.nil _ _ _⟩
theorem repr_at (x : PPt) {W : World} {A : Option Addr} {n c : Nat} {xs : List Int} (h : SlI W W.heap.size .u16 A n c xs) : RepAt W (.agg #[.int .i64 x.fn, .int .i64 0, .slice none 0 0, .slice A n c]) ⟨x.fn, 0, [], xs⟩ := ⟨none, 0, 0, A, n, c, rfl, SlB.nil _ _, h⟩
theorem lit_up (X : World) (a b : Int) (o : Obj) (p : Nat) (hp : X.heap.size = p) : SlI ((X.alloc (.cells #[.int .u16 a, .int .u16 b] 45)).alloc o) ((X.alloc (.cells #[.int .u16 a, .int .u16 b] 45)).alloc o).heap.size .u16 (some ⟨p, 0, none⟩) 2 2 [a, b] := by
  subst hp
  have q : SlI (X.alloc (.cells #[.int .u16 a, .int .u16 b] 45)) (X.alloc (.cells #[.int .u16 a, .int .u16 b] 45)).heap.size .u16 (some ⟨X.heap.size, 0, none⟩) 2 2 [a, b] := SlI.of_lit rfl rfl (by omega)
  exact q.up ((Below.refl _ _).alloc (Nat.le_refl _) _)
theorem SlI.frame2 {W : World} {A : Option Addr} {n c : Nat} {xs : List Int} {g : Nat} {T : TypeId} (h : SlI W W.heap.size .u8 A n c xs) (hF : Held W g T #[.int .i64 0, .slice none 0 0]) (a b : Value) :
    SlI ((W.setCell ⟨g, 0, none⟩ a).setCell ⟨g, 1, none⟩ b) ((W.setCell ⟨g, 0, none⟩ a).setCell ⟨g, 1, none⟩ b).heap.size .u8 A n c xs := by
  refine ⟨h.1, h.2.1, h.2.2.1, h.2.2.2.1, fun hn => ?_⟩
  obtain ⟨gb, off, ea, hlt, hc⟩ := h.2.2.2.2 hn
  have hne : g ≠ gb := fun e => by
    have h0 : 0 < xs.length := hn
    obtain ⟨x, hx⟩ : ∃ x, xs[0]? = some x := ⟨_, List.getElem?_eq_getElem h0⟩
    have q := hc 0 x hx
    rw [← e] at q
    have q2 := hF.cell (off + 0)
    rw [q] at q2
    have : off + 0 = 0 ∨ off + 0 = 1 := by
      have := (Array.getElem?_eq_some_iff.1 q2.symm).1
      simp at this
      omega
    rcases this with h | h <;> (rw [h] at q2; simp at q2)
  refine ⟨gb, off, ea, by simpa using hlt, fun i x hx => ?_⟩
  exact (cell_set_far _ _ _ _ _ _ hne).trans ((cell_set_far _ _ _ _ _ _ hne).trans (hc i x hx))
set_option maxHeartbeats 4000000 in
theorem frame_any (A : Option Addr) (n cp : Nat) (c : PCf) (ps : List PPt) (k : Int) (o : OpP) (Ap : Option Addr) (np cpp : Nat) (w : World) (hD : PtsI w w.heap.size A n cp ps) (hS : SlI w w.heap.size .u8 Ap np cpp o.pdu) (ho : o.ok) (hn3 : np ≤ 300) (hok : ∀ x ∈ ps, x.ok) (hn64 : n ≤ 64) :
    Calls Tryd.prog 41 #[.agg (polC0 A n cp c), .int .i64 k, .agg #[.int .i64 o.kind, .int .i64 o.t, .int .i64 o.unit, .slice Ap np cpp, .int .u32 o.n]] w (FramePost w) := by
  obtain ⟨w0, hw0⟩ : ∃ Y : World, ((w.alloc (.cells (polC0 A n cp c) 75)).alloc (.cells #[.int .i64 o.kind, .int .i64 o.t, .int .i64 o.unit, .slice Ap np cpp, .int .u32 o.n] 93)).alloc (.cells #[.int .i64 0, .slice none 0 0] 64) = Y := ⟨_, rfl⟩
  have b0 : Below w.heap.size w w0 := by rw [← hw0]; exact (((Below.refl _ w).alloc (Nat.le_refl _) _).alloc (by simp) _).alloc (by simp; omega) _
  have hz0 : w0.heap.size = w.heap.size + 3 := by rw [← hw0]; simp
  have hP0 : Held w0 w.heap.size 75 (polC0 A n cp c) := by rw [← hw0]; exact ((Held.new w _ _).alloc _).alloc _
  have hO0 : Held w0 (w.heap.size + 1) 93 #[.int .i64 o.kind, .int .i64 o.t, .int .i64 o.unit, .slice Ap np cpp, .int .u32 o.n] := by
    rw [← hw0]
    have h := (Held.new (w.alloc (.cells (polC0 A n cp c) 75)) 93 #[.int .i64 o.kind, .int .i64 o.t, .int .i64 o.unit, .slice Ap np cpp, .int .u32 o.n]).alloc (.cells #[.int .i64 0, .slice none 0 0] 64)
    rw [World.size_alloc] at h
    exact h
  have hF0 : Held w0 (w.heap.size + 1 + 1) 64 #[.int .i64 0, .slice none 0 0] := by
    rw [← hw0]
    have h := Held.new ((w.alloc (.cells (polC0 A n cp c) 75)).alloc (.cells #[.int .i64 o.kind, .int .i64 o.t, .int .i64 o.unit, .slice Ap np cpp, .int .u32 o.n] 93)) 64 #[.int .i64 0, .slice none 0 0]
    rw [World.size_alloc, World.size_alloc] at h
    exact h
  have k0 : w0.cell? ⟨w.heap.size, 0, none⟩ = some (.slice A n cp) := hP0.cell 0
  have o0 : w0.cell? ⟨w.heap.size + 1, 0, none⟩ = some (.int .i64 o.kind) := hO0.cell 0
  have o2 : w0.cell? ⟨w.heap.size + 1, 2, none⟩ = some (.int .i64 o.unit) := hO0.cell 2
  have o3 : w0.cell? ⟨w.heap.size + 1, 3, none⟩ = some (.slice Ap np cpp) := hO0.cell 3
  have o4 : w0.cell? ⟨w.heap.size + 1, 4, none⟩ = some (.int .u32 o.n) := hO0.cell 4
  have g0 : w0.cell? ⟨w.heap.size + 1 + 1, 0, none⟩ = some (.int .i64 0) := hF0.cell 0
  have g1 : w0.cell? ⟨w.heap.size + 1 + 1, 1, none⟩ = some (.slice none 0 0) := hF0.cell 1
  have fg0 := hF0.frozen 0
  have fg1 := hF0.frozen 1
  have hlt0 : w.heap.size + 1 + 1 < w0.heap.size := by omega
  have HF0 := Lib.hid hF0
  have HB0 := Lib.hid b0
  have HS0 := Lib.hid (fun (X : World) (h : Below w.heap.size w X) => hS.up h)
  have HD0 := Lib.hid (hD.up b0)
  have HOK := Lib.hid ho
  have HN := Lib.hid hok
  have HL := Lib.hid hD.1
  clear hD hS ho hok hP0 hO0 hF0 b0
  by_cases hcase : 0 ≤ k ∧ k < n ∧ 2 ≤ o.kind
  · obtain ⟨h1, h2, h3⟩ := hcase
    obtain ⟨kk, rfl⟩ : ∃ kk : Nat, k = kk := ⟨k.toNat, by omega⟩
    obtain ⟨x, hx⟩ : ∃ x, ps[kk]? = some x := ⟨_, List.getElem?_eq_getElem (by have := HL.out; omega)⟩
    obtain ⟨gp, offp, rfl, hgp, hcp⟩ := HD0.out.2.2.2 (by omega)
    obtain ⟨x0, x1, x2, x3⟩ := hcp kk x hx
    have HXO := Lib.hid (HN.out x (List.mem_of_getElem? hx))
    have HRN : Hid (Reg16 []) := Lib.hid (fun z hz => by cases hz)
    have HRA : Hid (Reg16 x.ask.regs) := Lib.hid HRN.out
    have HRC : Hid (∀ cd, Reg16 (RepP.mk x.fn cd [] []).regs) := Lib.hid (fun _ => HRN.out)
    have H34 : Hid (x.ask.fn = 3 ∨ x.ask.fn = 4) := Lib.hid HXO.out.2.1
    clear hcp hx
    have d1 : decide ((kk : Int) < 0) = false := decide_eq_false (by omega)
    have d2 : decide ((n : Int) ≤ (kk : Int)) = false := decide_eq_false (by omega)
    have d3 : decide (o.kind < 2) = false := decide_eq_false (by omega)
    have h2n : ¬ n ≤ kk := by omega
    obtain ⟨ra, hra⟩ : ∃ q, IntKind.u16.wrap (o.n / 65536) = q := ⟨_, rfl⟩
    obtain ⟨rb, hrb⟩ : ∃ q, IntKind.u16.wrap o.n = q := ⟨_, rfl⟩
    have hra2 : 0 ≤ ra ∧ ra < 65536 := by rw [← hra]; simp only [IntKind.wrap_u16]; omega
    have hrb2 : 0 ≤ rb ∧ rb < 65536 := by rw [← hrb]; simp only [IntKind.wrap_u16]; omega
    have HR2 := Lib.hid (show Reg16 [ra, rb] from fun z hz => by simp at hz; rcases hz with rfl | rfl <;> assumption)
    have HR3 : Hid (Reg16 (RepP.mk x.fn 0 [] [ra, rb]).regs) := Lib.hid HR2.out
    clear hra2 hrb2
    obtain ⟨cd, hcd⟩ : ∃ q, wrap64 (1 + wrap64 (o.n.tmod 11)) = q := ⟨_, rfl⟩
    by_cases h3k : o.kind = 3
    · have hk3 : (o.kind == 3) = true := by simp [h3k]
      clear h3k
      go_in
      go_wp2_with fail
      with_reducible refine (answer_ref (.agg #[.int .i64 x.fn, .int .i64 x.addr, .int .i64 2, .int .i64 0, .slice none 0 0, .slice none 0 0]) (.agg #[.int .i64 x.fn, .int .i64 cd, .slice none 0 0, .slice none 0 0]) x.ask ⟨x.fn, cd, [], []⟩ _ (aska_at x _) (repc_at x cd _) HRA.out (HRC.out cd) H34.out).mono ?_
      rintro e W5 ⟨A5, n5, c5, rfl, hs5, hb5⟩
      have hsm := answer_small x HXO.out ⟨x.fn, cd, [], []⟩ (fun z hz => by cases hz)
      have hb05 : Below w0.heap.size w0 W5 := ((((((Below.refl _ w0).alloc (Nat.le_refl _) _).alloc (by simp) _).alloc (by simp; omega) _).alloc (by simp; omega) _).trans (hb5.mono (by simp; omega)))
      have hX5 : W5.cell? ⟨w.heap.size + 3, 0, none⟩ = some (.int .i64 x.unit) := by
        have q := Held.new w0 143 #[.int .i64 x.unit, .int .i64 x.fn, .int .i64 x.addr, .int .i64 x.order]
        rw [hz0] at q
        have q2 := ((((q.alloc (.cells #[.int .i64 x.fn, .int .i64 x.addr, .int .i64 2, .int .i64 0, .slice none 0 0, .slice none 0 0] 59)).alloc (.cells #[.int .u16 ra, .int .u16 rb] 45)).alloc _).below hb5 (by simp; omega))
        exact q2.cell 0
      have hF5 := HF0.out.below hb05 (by omega)
      have HF5 := Lib.hid hF5
      have hl5 : w.heap.size + 3 < W5.heap.size := World.block_lt_of_cell? W5 _ hX5
      have g0 := hF5.cell 0
      have g1 := hF5.cell 1
      simp only [List.getElem?_toArray, List.getElem?_cons_zero, List.getElem?_cons_succ] at g0 g1
      have fg0 := hF5.frozen 0
      have fg1 := hF5.frozen 1
      have HBF : Hid (Below w.heap.size w ((W5.setCell ⟨w.heap.size + 1 + 1, 0, none⟩ (.int .i64 x.unit)).setCell ⟨w.heap.size + 1 + 1, 1, none⟩ (.slice A5 n5 c5)) ∧ Below W5.heap.size W5 W5) := Lib.hid ⟨((HB0.out.trans (hb05.mono HB0.out.size)).setCell (p := ⟨w.heap.size + 1 + 1, 0, none⟩) (by show w.heap.size ≤ w.heap.size + 1 + 1; omega) _).setCell (p := ⟨w.heap.size + 1 + 1, 1, none⟩) (by show w.heap.size ≤ w.heap.size + 1 + 1; omega) _, Below.refl _ _⟩
      have HS5 := Lib.hid (And.intro hs5 hsm)
      clear hs5 hsm hb5 hb05 hF5
      go_wp2_with fail
      exact bodyPost_ret (results_cell1 rfl _ _ _ _ _ _ (by kernel_rfl) (fset2 HF5.out _ _) Tryd.underlying64 (by kernel_rfl) (by kernel_rfl)) rfl ⟨x.unit, A5, n5, c5, _, rfl, HS5.out.1.frame2 HF5.out _ _, HS5.out.2.1, by have := HS5.out.2.2; have := HS5.out.1.1; omega, HBF.out.1⟩
    · have hk3 : (o.kind == 3) = false := by simp [h3k]
      clear h3k
      go_in
      go_wp2_with fail
      have hS4 := lit_up ((w0.alloc (.cells #[.int .i64 x.unit, .int .i64 x.fn, .int .i64 x.addr, .int .i64 x.order] 143)).alloc (.cells #[.int .i64 x.fn, .int .i64 x.addr, .int .i64 2, .int .i64 0, .slice none 0 0, .slice none 0 0] 59)) ra rb (.cells #[.int .i64 x.fn, .int .i64 0, .slice none 0 0, .slice (some ⟨w.heap.size + 3 + 1 + 1, 0, none⟩) 2 2] 68) (w.heap.size + 3 + 1 + 1) (by rw [World.size_alloc, World.size_alloc, hz0])
      with_reducible refine (answer_ref (.agg #[.int .i64 x.fn, .int .i64 x.addr, .int .i64 2, .int .i64 0, .slice none 0 0, .slice none 0 0]) (.agg #[.int .i64 x.fn, .int .i64 0, .slice none 0 0, .slice (some ⟨w.heap.size + 3 + 1 + 1, 0, none⟩) 2 2]) x.ask ⟨x.fn, 0, [], [ra, rb]⟩ _ (aska_at x _) (repr_at x hS4) HRA.out HR3.out H34.out).mono ?_
      rintro e W5 ⟨A5, n5, c5, rfl, hs5, hb5⟩
      have hsm := answer_small x HXO.out ⟨x.fn, 0, [], [ra, rb]⟩ HR2.out
      have hb05 : Below w0.heap.size w0 W5 := ((((((Below.refl _ w0).alloc (Nat.le_refl _) _).alloc (by simp) _).alloc (by simp; omega) _).alloc (by simp; omega) _).trans (hb5.mono (by simp; omega)))
      have hX5 : W5.cell? ⟨w.heap.size + 3, 0, none⟩ = some (.int .i64 x.unit) := by
        have q := Held.new w0 143 #[.int .i64 x.unit, .int .i64 x.fn, .int .i64 x.addr, .int .i64 x.order]
        rw [hz0] at q
        have q2 := ((((q.alloc (.cells #[.int .i64 x.fn, .int .i64 x.addr, .int .i64 2, .int .i64 0, .slice none 0 0, .slice none 0 0] 59)).alloc (.cells #[.int .u16 ra, .int .u16 rb] 45)).alloc _).below hb5 (by simp; omega))
        exact q2.cell 0
      have hF5 := HF0.out.below hb05 (by omega)
      have HF5 := Lib.hid hF5
      have hl5 : w.heap.size + 3 < W5.heap.size := World.block_lt_of_cell? W5 _ hX5
      have g0 := hF5.cell 0
      have g1 := hF5.cell 1
      simp only [List.getElem?_toArray, List.getElem?_cons_zero, List.getElem?_cons_succ] at g0 g1
      have fg0 := hF5.frozen 0
      have fg1 := hF5.frozen 1
      have HBF : Hid (Below w.heap.size w ((W5.setCell ⟨w.heap.size + 1 + 1, 0, none⟩ (.int .i64 x.unit)).setCell ⟨w.heap.size + 1 + 1, 1, none⟩ (.slice A5 n5 c5)) ∧ Below W5.heap.size W5 W5) := Lib.hid ⟨((HB0.out.trans (hb05.mono HB0.out.size)).setCell (p := ⟨w.heap.size + 1 + 1, 0, none⟩) (by show w.heap.size ≤ w.heap.size + 1 + 1; omega) _).setCell (p := ⟨w.heap.size + 1 + 1, 1, none⟩) (by show w.heap.size ≤ w.heap.size + 1 + 1; omega) _, Below.refl _ _⟩
      have HS5 := Lib.hid (And.intro hs5 hsm)
      clear hs5 hsm hb5 hb05 hF5
      go_wp2_with fail
      exact bodyPost_ret (results_cell1 rfl _ _ _ _ _ _ (by kernel_rfl) (fset2 HF5.out _ _) Tryd.underlying64 (by kernel_rfl) (by kernel_rfl)) rfl ⟨x.unit, A5, n5, c5, _, rfl, HS5.out.1.frame2 HF5.out _ _, HS5.out.2.1, by have := HS5.out.2.2; have := HS5.out.1.1; omega, HBF.out.1⟩
  · have hend : ∀ (Q : Prop), (k < 0 → Q) → (¬ k < 0 → (n : Int) ≤ k → Q) → (¬ k < 0 → ¬ (n : Int) ≤ k → o.kind < 2 → Q) → Q := fun Q q1 q2 q3 => by
      by_cases a : k < 0
      · exact q1 a
      · by_cases b : (n : Int) ≤ k
        · exact q2 a b
        · exact q3 a b (by omega)
    have HBF : Hid (Below w.heap.size w ((w0.setCell ⟨w.heap.size + 1 + 1, 0, none⟩ (.int .i64 o.unit)).setCell ⟨w.heap.size + 1 + 1, 1, none⟩ (.slice Ap np cpp))) := Lib.hid ((HB0.out.setCell (p := ⟨w.heap.size + 1 + 1, 0, none⟩) (by show w.heap.size ≤ w.heap.size + 1 + 1; omega) _).setCell (p := ⟨w.heap.size + 1 + 1, 1, none⟩) (by show w.heap.size ≤ w.heap.size + 1 + 1; omega) _)
    refine hend _ (fun a => ?_) (fun a b => ?_) (fun a b d => ?_)
    · have d1 : decide (k < 0) = true := decide_eq_true a
      clear hcase hend
      go_in
      go_wp2_with fail
      exact bodyPost_ret (results_cell1 rfl _ _ _ _ _ _ (by kernel_rfl) (fset2 HF0.out _ _) Tryd.underlying64 (by kernel_rfl) (by kernel_rfl)) rfl ⟨o.unit, Ap, np, cpp, o.pdu, rfl, HS0.out _ HBF.out, HOK.out.2.2.2.2, by omega, HBF.out⟩
    · have d1 : decide (k < 0) = false := decide_eq_false a
      have d2 : decide ((n : Int) ≤ k) = true := decide_eq_true b
      clear hcase hend
      go_in
      go_wp2_with fail
      exact bodyPost_ret (results_cell1 rfl _ _ _ _ _ _ (by kernel_rfl) (fset2 HF0.out _ _) Tryd.underlying64 (by kernel_rfl) (by kernel_rfl)) rfl ⟨o.unit, Ap, np, cpp, o.pdu, rfl, HS0.out _ HBF.out, HOK.out.2.2.2.2, by omega, HBF.out⟩
    · have d1 : decide (k < 0) = false := decide_eq_false a
      have d2 : decide ((n : Int) ≤ k) = false := decide_eq_false b
      have d3 : decide (o.kind < 2) = true := decide_eq_true d
      clear hcase hend
      go_in
      go_wp2_with fail
      exact bodyPost_ret (results_cell1 rfl _ _ _ _ _ _ (by kernel_rfl) (fset2 HF0.out _ _) Tryd.underlying64 (by kernel_rfl) (by kernel_rfl)) rfl ⟨o.unit, Ap, np, cpp, o.pdu, rfl, HS0.out _ HBF.out, HOK.out.2.2.2.2, by omega, HBF.out⟩
end Go.Proofs.YtcipleanckeoaaaDoor
