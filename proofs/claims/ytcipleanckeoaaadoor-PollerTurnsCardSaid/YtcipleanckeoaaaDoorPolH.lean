/- The poller's Hear. -/
import Derived.Test.YtcipleanckeoaaaDoorPolE
import Derived.Test.YtcipleanckeoaaaDoorPduRa
import Derived.Test.YtcipleanckeoaaaDoorRegsLaws
import Derived.Test.YtcipleanckeoaaaDoorCommon
import Derived.Deep.Cut
namespace Go.Proofs.YtcipleanckeoaaaDoor
open Go.RowKit
attribute [local go_sem] Oper.semAt_some
set_option linter.unusedVariables false
set_option linter.unusedSimpArgs false
set_option maxRecDepth 100000
/-- What Hear tells, and does. -/
def HearPost (w : World) (g gl cap : Nat) (c : PCf) (s : PSt) (t unit : Int) (b : List Int) (e : Ending) (w' : World) : Prop :=
  ∃ (p v : Int) (is : Bool) (s' : PSt), e = .returned (.tuple #[.agg #[.int .i64 p, .int .u32 v], .bool is, .int .i64 0]) ∧ PolAt w' g gl cap c s' ∧ Bt g gl w w' ∧ HearR c { s with now := t } s' ∧
    (∀ (k : Nat) (x : PPt) (r : RepP), s.waits = true → t < s.at_ + c.tmo → s.opn = k → s.l[k]? = some x → readAnswerP x.ask b = some r → unit = x.unit → r.code = 0 → p = k ∧ v = IntKind.u32.wrap (valX r.regs x.order) ∧ is = true ∧ s' = heardP c { s with now := t })
theorem results_cell2 {fn : Func} {p q u : Tmp} {ty t1 : TypeId} (h : fn.results = #[.cell p ty, .tmp q, .tmp u]) (tmps : Array Value) (P : Program) (w : World) (g1 : Nat) (c1 : Array Value) (v1 v2 : Value) (d1 : TypeDesc)
    (hp : tmps.getD p undef = .pointer (some ⟨g1, 0, none⟩)) (hq : tmps.getD q undef = v1) (hu : tmps.getD u undef = v2) (h1 : Held w g1 t1 c1) (hu1 : P.underlying ty = some d1) (hd1 : d1.isRow = true) (hi1 : (P.info? ty).map (·.size) = some c1.size) : (results fn tmps).run P w = .ok (.tuple #[.agg c1, v1, v2]) w := by
  have hp' : tmps[p]?.getD undef = .pointer (some ⟨g1, 0, none⟩) := by simpa using hp
  have hq' : tmps[q]?.getD undef = v1 := by simpa using hq
  have hu' : tmps[u]?.getD undef = v2 := by simpa using hu
  have l1 := run_loadVar_mid w g1 0 ty c1.toList d1 h1.range hu1 hd1 (by simpa using hi1)
  simp [results, h, hp', hq', hu', asAddr, l1]
theorem set2 {W : World} {B : Nat} {T : TypeId} {a b : Value} (h : Held W B T #[a, b]) (a' b' : Value) : Held ((W.setCell ⟨B, 0, none⟩ a').setCell ⟨B, 1, none⟩ b') B T #[a', b'] := by
  have h3 := (h.set 0 a').set 1 b'
  simpa using h3
theorem PolAt.far {W : World} {g gl cap b o : Nat} {c : PCf} {s : PSt} (h : PolAt W g gl cap c s) (h1 : g ≠ b) (h2 : gl ≠ b) (v : Value) : PolAt (W.setCell ⟨b, o, none⟩ v) g gl cap c s := by
  obtain ⟨q1, ⟨cur, q2, q3⟩, q4⟩ := h
  exact ⟨q1.far h1 _, ⟨cur, q2.far h2 _, q3⟩, q4⟩
theorem Bt.new {g gl b o : Nat} {A B : World} (h : Bt g gl A B) (hb : A.heap.size ≤ b) (v : Value) : Bt g gl A (B.setCell ⟨b, o, none⟩ v) :=
  ⟨h.1.setCell (p := ⟨b, o, none⟩) (Nat.zero_le _) v, fun k h1 h2 h3 => (Below.heap_setCell B ⟨b, o, none⟩ v k (by simp; omega)).trans (h.2 k h1 h2 h3)⟩
theorem SlI.bt {g gl : Nat} {w w' : World} {k : IntKind} {A : Option Addr} {n c : Nat} {xs : List Int} (h : SlI w w.heap.size k A n c xs) (hb : Bt g gl w w') (hA : ∀ a, A = some a → a.block ≠ g ∧ a.block ≠ gl) : SlI w' w'.heap.size k A n c xs :=
  ⟨h.1, h.2.1, h.2.2.1, h.2.2.2.1, fun hn => by
    obtain ⟨gb, off, e, hlt, hc⟩ := h.2.2.2.2 hn
    have := hA _ e
    exact ⟨gb, off, e, Nat.lt_of_lt_of_le hlt hb.size, fun i x hx => (World.cell?_of_block (hb.2 gb this.1 this.2 hlt)).trans (hc i x hx)⟩⟩
theorem SlI.bt1 {g : Nat} {w w' : World} {k : IntKind} {A : Option Addr} {n c : Nat} {xs : List Int} (h : SlI w w.heap.size k A n c xs) (hb : Bt g g w w') (hA : ∀ a, A = some a → 0 < n → a.block ≠ g) : SlI w' w'.heap.size k A n c xs :=
  ⟨h.1, h.2.1, h.2.2.1, h.2.2.2.1, fun hn => by
    obtain ⟨gb, off, e, hlt, hc⟩ := h.2.2.2.2 hn
    have := hA _ e (by rw [← h.1]; exact hn)
    exact ⟨gb, off, e, Nat.lt_of_lt_of_le hlt hb.size, fun i x hx => (World.cell?_of_block (hb.2 gb this this hlt)).trans (hc i x hx)⟩⟩
theorem Bt.one {g gl : Nat} {A B : World} (h : Bt g g A B) : Bt g gl A B := ⟨h.1, fun k h1 _ h3 => h.2 k h1 h1 h3⟩
/-- No byte lies in the poller's own block. -/
theorem PolAt.not8 {W : World} {g gl cap gb off : Nat} {c : PCf} {s : PSt} {x : Int} (h : PolAt W g gl cap c s) (hc : W.cell? ⟨gb, off, none⟩ = some (.int .u8 x)) : gb ≠ g := fun e => by
  subst e
  rw [h.1.cell off] at hc
  have hlt := (Array.getElem?_eq_some_iff.1 hc).1
  have : off < 13 := hlt
  unfold polC at hc
  rcases (show off = 0 ∨ off = 1 ∨ off = 2 ∨ off = 3 ∨ off = 4 ∨ off = 5 ∨ off = 6 ∨ off = 7 ∨ off = 8 ∨ off = 9 ∨ off = 10 ∨ off = 11 ∨ off = 12 by omega) with rfl | rfl | rfl | rfl | rfl | rfl | rfl | rfl | rfl | rfl | rfl | rfl | rfl <;> simp at hc
set_option maxHeartbeats 1000000 in
theorem comes_own (g gl cap : Nat) (c : PCf) (s : PSt) (t : Int) (w : World) (h : PolAt w g gl cap c s) (hn : 0 < s.l.length) (h1 : s.now ≤ t) (h2 : t ≤ 4611686018427387904) :
    Calls Tryd.prog 79 #[.pointer (some ⟨g, 0, none⟩), .int .i64 t] w fun e w' => e = .returned (.int .i64 0) ∧ PolAt w' g gl cap c { s with now := t } ∧ Bt g g w w' := by
  have H := Lib.hid h
  obtain ⟨_, _, _, _, _, c6, c7, _⟩ := h.cells
  have f7 := h.frozen 7
  have hlt := h.lt.1
  have d1 : decide (t < s.now) = false := decide_eq_false (by omega)
  have d2 : decide ((4611686018427387904 : Int) < t) = false := decide_eq_false (by omega)
  have hz : ((s.l.length : Int) == 0) = false := beq_eq_false_iff_ne.2 (by omega)
  clear h h1 h2
  go_in
  go_wp2
  go_ret
  exact ⟨rfl, H.out.put 7 _ { s with now := t } rfl rfl, (Bt.refl _ _ _).set _ _ (.inl rfl) _⟩
theorem SlI.far4 {W : World} {A : Option Addr} {n c : Nat} {xs : List Int} {gA : Nat} (h : SlI W W.heap.size .u16 A n c xs) (hA : Held W gA 68 #[.int .i64 0, .int .i64 0, .slice none 0 0, .slice none 0 0]) (a b d e : Value) :
    SlI ((((W.setCell ⟨gA, 0, none⟩ a).setCell ⟨gA, 1, none⟩ b).setCell ⟨gA, 2, none⟩ d).setCell ⟨gA, 3, none⟩ e) ((((W.setCell ⟨gA, 0, none⟩ a).setCell ⟨gA, 1, none⟩ b).setCell ⟨gA, 2, none⟩ d).setCell ⟨gA, 3, none⟩ e).heap.size .u16 A n c xs := by
  refine ⟨h.1, h.2.1, h.2.2.1, h.2.2.2.1, fun hn => ?_⟩
  obtain ⟨gb, off, ea, hlt, hc⟩ := h.2.2.2.2 hn
  have hne : gA ≠ gb := fun e => by
    have h0 : 0 < xs.length := hn
    obtain ⟨x, hx⟩ : ∃ x, xs[0]? = some x := ⟨_, List.getElem?_eq_getElem h0⟩
    have q := hc 0 x hx
    rw [← e] at q
    have q2 := hA.cell (off + 0)
    rw [q] at q2
    have : off + 0 = 0 ∨ off + 0 = 1 ∨ off + 0 = 2 ∨ off + 0 = 3 := by
      have := (Array.getElem?_eq_some_iff.1 q2.symm).1
      simp at this
      omega
    rcases this with h | h | h | h <;> (rw [h] at q2; simp at q2)
  refine ⟨gb, off, ea, by simpa using hlt, fun i x hx => ?_⟩
  exact (cell_set_far _ _ _ _ _ _ hne).trans ((cell_set_far _ _ _ _ _ _ hne).trans ((cell_set_far _ _ _ _ _ _ hne).trans ((cell_set_far _ _ _ _ _ _ hne).trans (hc i x hx))))
theorem ra_regs {a : AskP} {b : List Int} {r : RepP} (hb : Byte8 b) (h : readAnswerP a b = some r) : ∀ z ∈ r.regs, 0 ≤ z ∧ z < 65536 := by
  have key : ∀ z ∈ (guessR a b).regs, 0 ≤ z ∧ z < 65536 := by
    unfold guessR
    intro z hz
    split at hz
    · cases hz
    · split at hz
      · cases hz
      · split at hz
        · dsimp only at hz
          split at hz
          · exact wordsP_reg (fun x hx => hb x (List.mem_of_mem_drop hx)) z hz
          · cases hz
        · cases hz
  unfold readAnswerP at h
  split at h
  · cases h
  · split at h
    · cases h; exact key
    · cases h
/-- What region 15 reads. -/
def HrS (g gl cap n : Nat) (c : PCf) (began : Int) (Y : World) : Prop :=
  Y.cell? ⟨g, 6, none⟩ = some (.slice (some ⟨gl, 0, none⟩) n cap) ∧ Y.cell? ⟨g, 4, none⟩ = some (.int .i64 c.per) ∧ Y.cell? ⟨g, 9, none⟩ = some (.int .i64 began)
theorem HrS.far {g gl cap n o : Nat} {c : PCf} {began : Int} {Y : World} (h : HrS g gl cap n c began Y) (hne : gl ≠ g) (v : Value) : HrS g gl cap n c began (Y.setCell ⟨gl, o, none⟩ v) :=
  ⟨(cell_set_far _ _ _ _ _ _ hne).trans h.1, (cell_set_far _ _ _ _ _ _ hne).trans h.2.1, (cell_set_far _ _ _ _ _ _ hne).trans h.2.2⟩
theorem HrS.open_ {g gl cap n : Nat} {c : PCf} {began : Int} {Y : World} (h : HrS g gl cap n c began Y) (v : Value) : HrS g gl cap n c began (Y.setCell ⟨g, 8, none⟩ v) :=
  ⟨(cell_set_ne _ _ _ _ _ (by decide)).trans h.1, (cell_set_ne _ _ _ _ _ (by decide)).trans h.2.1, (cell_set_ne _ _ _ _ _ (by decide)).trans h.2.2⟩
/-- What stands behind the reply is read. -/
def HrQ (x : PPt) (b : List Int) (V : World) (s12 s13 : Value) (wx : World) : Prop := ∃ (gA : Nat) (Ab : Option Addr) (nb cb : Nat) (Ar : Option Addr) (nr cr : Nat), s12 = .pointer (some ⟨gA, 0, none⟩) ∧ s13 = .int .i64 (errV (readAnswerP x.ask b).isSome) ∧
  Held wx gA 68 #[.int .i64 ((readAnswerP x.ask b).getD rep0).fn, .int .i64 ((readAnswerP x.ask b).getD rep0).code, .slice Ab nb cb, .slice Ar nr cr] ∧ SlI wx wx.heap.size .u16 Ar nr cr ((readAnswerP x.ask b).getD rep0).regs ∧ Below V.heap.size V wx
set_option maxHeartbeats 4000000 in
theorem hear_any (g gl cap : Nat) (c : PCf) (hc : c.ok) (s : PSt) (t unit : Int) (B : Option Addr) (n cc : Nat) (b : List Int) (w : World) (hT : LimT w) (hG : 1 ≠ g ∧ 1 ≠ gl) (h : PolAt w g gl cap c s) (hn : 0 < s.l.length) (h1 : s.now ≤ t) (h2 : t ≤ 4611686018427387904) (h0 : 0 ≤ s.now) (ha : 0 ≤ s.at_ ∧ s.at_ ≤ 4611686018427387904) (hbg : 0 ≤ s.began ∧ s.began ≤ 4611686018427387904)
    (ho : s.waits = true → ∃ (k : Nat) (x : PPt), s.opn = k ∧ s.l[k]? = some x ∧ x.ok ∧ 0 ≤ x.fails ∧ x.fails ≤ 1000000) (hB : SlI w w.heap.size .u8 B n cc b) (hb8 : Byte8 b) (hnn : n ≤ 1000) :
    Calls Tryd.prog 40 #[.pointer (some ⟨g, 0, none⟩), .int .i64 t, .agg #[.int .i64 unit, .slice B n cc]] w (HearPost w g gl cap c s t unit b) := by
  obtain ⟨⟨ct1, ct2⟩, ⟨cs1, cs2⟩, _, ⟨cp1, cp2⟩, _⟩ := hc
  have hlt := h.lt
  obtain ⟨w0, hw0⟩ : ∃ Y : World, (w.alloc (.cells #[.int .i64 unit, .slice B n cc] 64)).alloc (.cells #[.int .i64 0, .int .u32 0] 95) = Y := ⟨_, rfl⟩
  have b0 : Below w.heap.size w w0 := by rw [← hw0]; exact ((Below.refl _ w).alloc (Nat.le_refl _) _).alloc (by simp) _
  have hF0 : Held w0 w.heap.size 64 #[.int .i64 unit, .slice B n cc] := by rw [← hw0]; exact (Held.new w _ _).alloc _
  have hR0 : Held w0 (w.heap.size + 1) 95 #[.int .i64 0, .int .u32 0] := by
    rw [← hw0]
    have := Held.new (w.alloc (.cells #[.int .i64 unit, .slice B n cc] 64)) 95 #[.int .i64 0, .int .u32 0]
    rw [World.size_alloc] at this
    exact this
  have HC := Lib.hid (comes_own g gl cap c s t w0 (h.up b0) hn h1 h2)
  have hBg : ∀ a, B = some a → 0 < n → a.block ≠ g := fun a ea hn0 => by
    obtain ⟨gb, off, e1, _, hc8⟩ := hB.2.2.2.2 (by rw [hB.1]; exact hn0)
    rw [ea] at e1
    injection e1 with e1
    subst e1
    exact h.not8 (hc8 0 _ (List.getElem?_eq_getElem (by rw [hB.1]; exact hn0)))
  have hz0 := b0.size
  have HB := Lib.hid (hB.up b0)
  have HT := Lib.hid (hT.up b0)
  have HH := Lib.hid (And.intro hF0 (And.intro hR0 (Bt.of_below (g := g) (gl := gl) b0)))
  have hr0l := hR0.lt
  have hwr : IntKind.i64.wrap (s.at_ + c.tmo) = s.at_ + c.tmo := i64_add_in _ _ (by omega) (by omega)
  clear h hT hB b0 hF0 hR0
  go_in
  go_wp2_with (go_at_call 79; refine HC.out.mono ?_; rintro e w1 ⟨rfl, hP1, b1g⟩)
  clear hw0
  have b1 : Bt g gl w0 w1 := b1g.one
  have HBG1 := Lib.hid b1g
  clear b1g
  have HP1 := Lib.hid hP1
  have HB1 := Lib.hid b1
  have hz1 := b1.size
  obtain ⟨hF, hR, hBT⟩ := HH.out
  have hF1 := b1.held hF (by omega) (by omega)
  have hR1 := b1.held hR (by omega) (by omega)
  have HH1 := Lib.hid (And.intro hF1 (And.intro hR1 (hBT.trans b1)))
  obtain ⟨c1, c2, c3, c4, c5, c6, c7, c8, c9, c10, c11, c12⟩ := hP1.cells
  rw [show ({ s with now := t } : PSt).waits = s.waits from rfl] at c11
  rw [show ({ s with now := t } : PSt).at_ = s.at_ from rfl] at c12
  rw [show ({ s with now := t } : PSt).opn = s.opn from rfl] at c8
  rw [show ({ s with now := t } : PSt).l = s.l from rfl] at c6
  clear hP1 b1 hF hR hBT hF1 hR1 c2 c3 c4 c5 c7 c9 c10
  by_cases hlate : s.waits = true ∧ t < s.at_ + c.tmo
  case neg =>
    have HL := Lib.hid hlate
    have HN : Hid (∀ nq, HearPost w g gl cap c s t unit b (.returned (.tuple #[.agg #[.int .i64 0, .int .u32 0], .bool false, .int .i64 0])) (((w1.drewN nq).setCell ⟨w.heap.size + 1, 0, none⟩ (.int .i64 0)).setCell ⟨w.heap.size + 1, 1, none⟩ (.int .u32 0))) := Lib.hid (fun nq => ⟨0, 0, false, _, rfl, ((HP1.out.drewN nq).far (by omega) (by omega) _).far (by omega) (by omega) _, ((HH1.out.2.2.trans (Bt.of_below (below_drewN (Below.refl _ _) nq))).new (by omega) _).new (by omega) _, .inl rfl, fun k x r q1 q2 => absurd ⟨q1, q2⟩ HL.out⟩)
    have r0 := HH1.out.2.1.cell 0
    have r1 := HH1.out.2.1.cell 1
    have fr0 := HH1.out.2.1.frozen 0
    have fr1 := HH1.out.2.1.frozen 1
    have hrl := HH1.out.2.1.lt
    simp only [List.getElem?_toArray, List.getElem?_cons_zero, List.getElem?_cons_succ] at r0 r1
    cases hwt : s.waits
    · rw [hwt] at c11
      clear hlate hwt HL
      go_quiet (fail)
      go_wp2
      exact bodyPost_ret (results_cell2 rfl _ _ _ _ _ _ _ _ (by kernel_rfl) (by kernel_rfl) (by kernel_rfl) (set2 (HH1.out.2.1 : Held (w1.drewN nq) _ _ _) _ _) Tryd.underlying95 (by kernel_rfl) (by kernel_rfl)) rfl (HN.out nq)
    · have hd : decide (s.at_ + c.tmo ≤ t) = true := decide_eq_true (by
        by_cases q : t < s.at_ + c.tmo
        · exact absurd ⟨hwt, q⟩ hlate
        · omega)
      rw [hwt] at c11
      clear hlate hwt HL
      go_quiet (fail)
      go_wp2
      exact bodyPost_ret (results_cell2 rfl _ _ _ _ _ _ _ _ (by kernel_rfl) (by kernel_rfl) (by kernel_rfl) (set2 (HH1.out.2.1 : Held (w1.drewN nq) _ _ _) _ _) Tryd.underlying95 (by kernel_rfl) (by kernel_rfl)) rfl (HN.out nq)
  case pos =>
    obtain ⟨hwt, htl⟩ := hlate
    obtain ⟨k, x, hk0, hx, hxo, hxf1, hxf2⟩ := ho hwt
    have hd : decide (s.at_ + c.tmo ≤ t) = false := decide_eq_false (by omega)
    rw [hwt] at c11
    rw [hk0] at c8
    have hkl := (List.getElem?_eq_some_iff.1 hx).1
    have hkI : (k : Int) < (s.l.length : Int) := by omega
    obtain ⟨x0, x1, x2, x3, _⟩ := HP1.out.point (k := k) (x := x) hx
    have HW := Lib.hid (And.intro hwt (And.intro htl (And.intro hk0 (And.intro hx hxo))))
    clear hwt htl hk0 hx hxo ho
    go_quiet (fail)
    obtain ⟨wq, hwq⟩ : ∃ Y : World, w1.drewN nq = Y := ⟨_, rfl⟩
    have HPq : Hid (PolAt wq g gl cap c { s with now := t }) := Lib.hid (by rw [← hwq]; exact HP1.out.drewN nq)
    have HHq : Hid (Held wq w.heap.size 64 #[.int .i64 unit, .slice B n cc] ∧ Held wq (w.heap.size + 1) 95 #[.int .i64 0, .int .u32 0] ∧ Bt g gl w wq) := Lib.hid (by rw [← hwq]; exact ⟨HH1.out.1, HH1.out.2.1, HH1.out.2.2.trans (Bt.of_below (below_drewN (Below.refl _ _) nq))⟩)
    have HBq : Hid (SlI wq wq.heap.size .u8 B n cc b) := Lib.hid (by rw [← hwq]; exact HB.out.bt1 (HBG1.out.trans (Bt.of_below (below_drewN (Below.refl _ _) nq))) hBg)
    have HTq : Hid (LimT wq) := Lib.hid (by rw [← hwq]; exact HT.out.bt (HB1.out.trans (Bt.of_below (below_drewN (Below.refl _ _) nq))) hG)
    rw [hwq]
    clear hwq HP1 HB1 HH1 HB HT c1 c6 c8 c11 c12 x0 x1 x2 x3 hd hwr hr0l hz0 hz1 HH HC
    obtain ⟨_, _, _, _, _, c6, _, c8, _⟩ := HPq.out.cells
    rw [show ({ s with now := t } : PSt).opn = (k : Int) from HW.out.2.2.1] at c8
    rw [show ({ s with now := t } : PSt).l = s.l from rfl] at c6
    obtain ⟨x0, x1, x2, x3, _⟩ := HPq.out.point (k := k) (x := x) HW.out.2.2.2.1
    have hll := HPq.out.lt
    have hwz := HHq.out.2.2.size
    go_wp2
    obtain ⟨V, hV⟩ : ∃ Y : World, wq.alloc (.cells #[.int .i64 x.unit, .int .i64 x.fn, .int .i64 x.addr, .int .i64 x.order] 143) = Y := ⟨_, rfl⟩
    have hbV : Below wq.heap.size wq V := by rw [← hV]; exact (Below.refl _ _).alloc (Nat.le_refl _) _
    have hXV : Held V wq.heap.size 143 #[.int .i64 x.unit, .int .i64 x.fn, .int .i64 x.addr, .int .i64 x.order] := by rw [← hV]; exact Held.new wq _ _
    rw [hV]
    have hPV := HPq.out.up hbV
    have hFV := HHq.out.1.below hbV HHq.out.1.lt
    have hRV := HHq.out.2.1.below hbV HHq.out.2.1.lt
    have hBV := HHq.out.2.2.trans (Bt.of_below hbV)
    have hSV := HBq.out.up hbV
    have hTV := HTq.out.up hbV
    obtain ⟨gp, hgp⟩ : ∃ gp, wq.heap.size = gp := ⟨_, rfl⟩
    have hgp1 : w.heap.size + 1 < gp := by have := HHq.out.2.1.lt; omega
    rw [hgp] at hXV ⊢
    have HV := Lib.hid (And.intro hPV (And.intro hFV (And.intro hRV (And.intro hBV (And.intro hSV (And.intro hTV hXV))))))
    clear hV hbV hXV hPV hFV hRV hBV hSV hTV HPq HHq HBq HTq hgp c6 c8 x0 x1 x2 x3 hwz
    have HRD : Hid (∀ Y : World, Below V.heap.size V Y → (Y.cell? ⟨gp, 0, none⟩ = some (.int .i64 x.unit) ∧ Y.cell? ⟨gp, 1, none⟩ = some (.int .i64 x.fn) ∧ Y.cell? ⟨gp, 2, none⟩ = some (.int .i64 x.addr) ∧ Y.cell? ⟨gp, 3, none⟩ = some (.int .i64 x.order)) ∧ Y.cell? ⟨w.heap.size, 0, none⟩ = some (.int .i64 unit) ∧ Y.cell? ⟨w.heap.size, 1, none⟩ = some (.slice B n cc)) := Lib.hid (fun Y hY => by
      obtain ⟨_, h2, _, _, _, _, h7⟩ := HV.out
      have q := h7.below hY h7.lt
      have r := h2.below hY h2.lt
      exact ⟨⟨q.cell 0, q.cell 1, q.cell 2, q.cell 3⟩, r.cell 0, r.cell 1⟩)
    go_cut [12, 13] from 55 (fun s12 s13 wx => HrQ x b V s12 s13 wx)
    case first =>
      obtain ⟨wd8, hwd8⟩ : ∃ W : World, V.drew = W := ⟨_, rfl⟩
      have hS : Below V.heap.size V wd8 := by rw [← hwd8]; exact (Below.refl _ _).drew
      refine wp_region_held (S := Below V.heap.size V) (by kernel_rfl) ?_
      change wpAnyH _ _ _ _ _ _ _ _ V.drew
      rw [hwd8]
      clear hwd8
      refine wpAnyH_take (i := 0) (v := ?v0_1) rfl (by kernel_rfl) (by kernel_rfl) (by kernel_rfl) (fun _ _ _ h => h) (Or.inl ⟨by rfl, ?y0_1⟩) hS ?r0_1
      case y0_1 =>
        rintro W hH
        obtain ⟨⟨r0, r1, r2, r3⟩, ⟨u0, u1⟩⟩ := HRD.out _ hH
        go_simp
        with_reducible rfl
      simp only [Act.put]
      try simp only [List.getElem_toArray, List.getElem_cons_zero]
      try simp only [List.setIfInBounds_toArray, List.set_cons_succ, List.set_cons_zero]
      refine wpAnyH_take (i := 2) (v := ?v2_2) rfl (by kernel_rfl) (by kernel_rfl) (by kernel_rfl) (fun _ _ _ h => h) (Or.inl ⟨by rfl, ?y2_2⟩) hS ?r2_2
      case y2_2 =>
        rintro W hH
        go_simp
        with_reducible rfl
      simp only [Act.put]
      try simp only [List.getElem_toArray, List.getElem_cons_succ, List.getElem_cons_zero]
      try simp only [List.setIfInBounds_toArray, List.set_cons_succ, List.set_cons_zero]
      refine wpAnyH_take (i := 3) (v := ?v3_3) rfl (by kernel_rfl) (by kernel_rfl) (by kernel_rfl) (fun _ _ _ h => h) (Or.inl ⟨by rfl, ?y3_3⟩) hS ?r3_3
      case y3_3 =>
        rintro W hH
        obtain ⟨⟨r0, r1, r2, r3⟩, ⟨u0, u1⟩⟩ := HRD.out _ hH
        go_simp
        with_reducible rfl
      simp only [Act.put]
      try simp only [List.getElem_toArray, List.getElem_cons_succ, List.getElem_cons_zero]
      try simp only [List.setIfInBounds_toArray, List.set_cons_succ, List.set_cons_zero]
      refine wpAnyH_ready (rs := [1, 8]) (by kernel_rfl) (by simp) ?_
      refine AllReadyH.cons rfl (fun K' hK' => ?_) (AllReadyH.cons rfl (fun K' hK' => ?_) AllReadyH.nil)
      · skip
        go_simp
        refine (ask_any x _).mono ?_
        rintro e Y1 ⟨rfl, bk⟩
        dsimp only
        have hSn := hS.trans (bk.mono hS.size)
        clear bk
        refine hK'.out _ _ hSn (fun hS => ?_)
        clear hK' K'
        refine wpAnyH_ready (rs := [4, 8]) (by kernel_rfl) (by simp) ?_
        refine AllReadyH.cons rfl (fun K' hK' => ?_) (AllReadyH.cons rfl (fun K' hK' => ?_) AllReadyH.nil)
        · skip
          go_simp
          have hTc := HV.out.2.2.2.2.2.1.up hS
          have hSc := HV.out.2.2.2.2.1.up hS
          have hAc : AskAt Y1 (.agg #[.int .i64 x.fn, .int .i64 x.addr, .int .i64 2, .int .i64 0, .slice none 0 0, .slice none 0 0]) x.ask := ⟨none, 0, 0, none, 0, 0, rfl, SlB.nil _ _, SlI.nil _ _ _⟩
          refine (readanswer_own _ x.ask B n cc b _ hTc hAc (fun z hz => by cases hz) hSc hb8 hnn HW.out.2.2.2.2.2.1).mono ?_
          rintro e Y2 ⟨v, rfl, ⟨Ab, nb, cb, Ar, nr, cr, rfl, hAb, hAr⟩, bk⟩
          dsimp only
          have hSn := hS.trans (bk.mono hS.size)
          clear bk hTc hSc hAc hAb
          refine hK'.out _ _ hSn (fun hS => ?_)
          clear hK' K'
          refine wpAnyH_take (i := 5) (v := ?v5_4) rfl (by kernel_rfl) (by kernel_rfl) (by kernel_rfl) (fun _ _ _ h => h) (Or.inl ⟨by rfl, ?y5_4⟩) hS ?r5_4
          case y5_4 =>
            rintro W hH
            go_simp
            with_reducible rfl
          simp only [Act.put]
          try simp only [List.getElem_toArray, List.getElem_cons_succ, List.getElem_cons_zero]
          try simp only [List.setIfInBounds_toArray, List.set_cons_succ, List.set_cons_zero]
          refine wpAnyH_take (i := 6) (v := ?v6_5) rfl (by kernel_rfl) (by kernel_rfl) (by kernel_rfl) (fun _ _ _ h => h) (Or.inl ⟨by rfl, ?y6_5⟩) hS ?r6_5
          case y6_5 =>
            rintro W hH
            go_simp
            with_reducible rfl
          simp only [Act.put]
          try simp only [List.getElem_toArray, List.getElem_cons_succ, List.getElem_cons_zero]
          try simp only [List.setIfInBounds_toArray, List.set_cons_succ, List.set_cons_zero]
          refine wpAnyH_take (i := 7) (v := ?v7_6) rfl (by kernel_rfl) (by kernel_rfl) (by kernel_rfl) (fun _ _ _ h => h) (Or.inl ⟨by rfl, ?y7_6⟩) hS ?r7_6
          case y7_6 =>
            rintro W hH
            go_simp
            with_reducible rfl
          simp only [Act.put]
          try simp only [List.getElem_toArray, List.getElem_cons_succ, List.getElem_cons_zero]
          try simp only [List.setIfInBounds_toArray, List.set_cons_succ, List.set_cons_zero]
          refine wpAnyH_ready (rs := [8]) (by kernel_rfl) (by simp) ?_
          refine AllReadyH.cons rfl (fun K' hK' => ?_) AllReadyH.nil
          go_simp
          obtain ⟨Y3, hY3⟩ : ∃ Y : World, Y2.alloc (.cells #[.int .i64 0, .int .i64 0, .slice none 0 0, .slice none 0 0] 68) = Y := ⟨_, rfl⟩
          have bk : Below Y2.heap.size Y2 Y3 := by rw [← hY3]; exact (Below.refl _ _).alloc (Nat.le_refl _) _
          have hAr := hAr.up bk
          have hA : Held Y3 Y2.heap.size 68 #[.int .i64 0, .int .i64 0, .slice none 0 0, .slice none 0 0] := by rw [← hY3]; exact Held.new _ _ _
          have hgA : V.heap.size ≤ Y2.heap.size := hS.size
          rw [hY3]
          obtain ⟨gA, hgAe⟩ : ∃ gA, Y2.heap.size = gA := ⟨_, rfl⟩
          rw [hgAe] at hA hgA ⊢
          have hSn := hS.trans (bk.mono hS.size)
          clear bk hY3 hgAe
          refine hK'.out _ _ hSn (fun hS => ?_)
          clear hK' K'
          refine wpAnyH_ready (rs := [9]) (by kernel_rfl) (by simp) ?_
          refine AllReadyH.cons rfl (fun K' hK' => ?_) AllReadyH.nil
          have q0 := hA.cell 0
          have q1 := hA.cell 1
          have q2 := hA.cell 2
          have q3 := hA.cell 3
          simp only [List.getElem?_toArray, List.getElem?_cons_zero, List.getElem?_cons_succ] at q0 q1 q2 q3
          have e0 := hA.frozen 0
          have e1 := hA.frozen 1
          have e2 := hA.frozen 2
          have e3 := hA.frozen 3
          have hAl := hA.lt
          go_simp
          obtain ⟨Y4, hY4⟩ : ∃ Y : World, (((Y3.setCell ⟨gA, 0, none⟩ (.int .i64 ((readAnswerP x.ask b).getD rep0).fn)).setCell ⟨gA, 1, none⟩ (.int .i64 ((readAnswerP x.ask b).getD rep0).code)).setCell ⟨gA, 2, none⟩ (.slice Ab nb cb)).setCell ⟨gA, 3, none⟩ (.slice Ar nr cr) = Y := ⟨_, rfl⟩
          have hA4 : Held Y4 gA 68 #[.int .i64 ((readAnswerP x.ask b).getD rep0).fn, .int .i64 ((readAnswerP x.ask b).getD rep0).code, .slice Ab nb cb, .slice Ar nr cr] := by rw [← hY4]; have := (((hA.set 0 (.int .i64 ((readAnswerP x.ask b).getD rep0).fn)).set 1 (.int .i64 ((readAnswerP x.ask b).getD rep0).code)).set 2 (.slice Ab nb cb)).set 3 (.slice Ar nr cr); simpa using this
          have hSn : Below V.heap.size V Y4 := by rw [← hY4]; exact (((hS.setCell (p := ⟨gA, 0, none⟩) hgA _).setCell (p := ⟨gA, 1, none⟩) hgA _).setCell (p := ⟨gA, 2, none⟩) hgA _).setCell (p := ⟨gA, 3, none⟩) hgA _
          have hAr4 : SlI Y4 Y4.heap.size .u16 Ar nr cr ((readAnswerP x.ask b).getD rep0).regs := by rw [← hY4]; exact hAr.far4 hA _ _ _ _
          rw [hY4]
          refine hK'.out _ _ hSn (fun hS => ?_)
          clear hK' K'
          refine wpAnyH_take (i := 10) (v := ?v10_7) rfl (by kernel_rfl) (by kernel_rfl) (by kernel_rfl) (fun _ _ _ h => h) (Or.inl ⟨by rfl, ?y10_7⟩) hS ?r10_7
          case y10_7 =>
            rintro W hH
            go_simp
            with_reducible rfl
          simp only [Act.put]
          try simp only [List.getElem_toArray, List.getElem_cons_succ, List.getElem_cons_zero]
          try simp only [List.setIfInBounds_toArray, List.set_cons_succ, List.set_cons_zero]
          refine wpAnyH_done (by kernel_rfl) ?_ _
          go_wp2_with fail
          go_meet
          case rel => exact ⟨_, Ab, nb, cb, Ar, nr, cr, rfl, rfl, hA4, hAr4, hS⟩
        · skip
          go_simp
          obtain ⟨Y2, hY2⟩ : ∃ Y : World, Y1.alloc (.cells #[.int .i64 0, .int .i64 0, .slice none 0 0, .slice none 0 0] 68) = Y := ⟨_, rfl⟩
          have bk : Below Y1.heap.size Y1 Y2 := by rw [← hY2]; exact (Below.refl _ _).alloc (Nat.le_refl _) _
          have hA : Held Y2 Y1.heap.size 68 #[.int .i64 0, .int .i64 0, .slice none 0 0, .slice none 0 0] := by rw [← hY2]; exact Held.new _ _ _
          have hgA : V.heap.size ≤ Y1.heap.size := hS.size
          rw [hY2]
          obtain ⟨gA, hgAe⟩ : ∃ gA, Y1.heap.size = gA := ⟨_, rfl⟩
          rw [hgAe] at hA hgA ⊢
          have hSn := hS.trans (bk.mono hS.size)
          clear bk hY2 hgAe
          refine hK'.out _ _ hSn (fun hS => ?_)
          clear hK' K'
          refine wpAnyH_ready (rs := [4]) (by kernel_rfl) (by simp) ?_
          refine AllReadyH.cons rfl (fun K' hK' => ?_) AllReadyH.nil
          go_simp
          have hTc := HV.out.2.2.2.2.2.1.up hS
          have hSc := HV.out.2.2.2.2.1.up hS
          have hAc : AskAt Y2 (.agg #[.int .i64 x.fn, .int .i64 x.addr, .int .i64 2, .int .i64 0, .slice none 0 0, .slice none 0 0]) x.ask := ⟨none, 0, 0, none, 0, 0, rfl, SlB.nil _ _, SlI.nil _ _ _⟩
          refine (readanswer_own _ x.ask B n cc b _ hTc hAc (fun z hz => by cases hz) hSc hb8 hnn HW.out.2.2.2.2.2.1).mono ?_
          rintro e Y3 ⟨v, rfl, ⟨Ab, nb, cb, Ar, nr, cr, rfl, hAb, hAr⟩, bk⟩
          dsimp only
          have hA := hA.below bk hA.lt
          have hSn := hS.trans (bk.mono hS.size)
          clear bk hTc hSc hAc hAb
          refine hK'.out _ _ hSn (fun hS => ?_)
          clear hK' K'
          refine wpAnyH_take (i := 5) (v := ?v5_8) rfl (by kernel_rfl) (by kernel_rfl) (by kernel_rfl) (fun _ _ _ h => h) (Or.inl ⟨by rfl, ?y5_8⟩) hS ?r5_8
          case y5_8 =>
            rintro W hH
            go_simp
            with_reducible rfl
          simp only [Act.put]
          try simp only [List.getElem_toArray, List.getElem_cons_succ, List.getElem_cons_zero]
          try simp only [List.setIfInBounds_toArray, List.set_cons_succ, List.set_cons_zero]
          refine wpAnyH_take (i := 6) (v := ?v6_9) rfl (by kernel_rfl) (by kernel_rfl) (by kernel_rfl) (fun _ _ _ h => h) (Or.inl ⟨by rfl, ?y6_9⟩) hS ?r6_9
          case y6_9 =>
            rintro W hH
            go_simp
            with_reducible rfl
          simp only [Act.put]
          try simp only [List.getElem_toArray, List.getElem_cons_succ, List.getElem_cons_zero]
          try simp only [List.setIfInBounds_toArray, List.set_cons_succ, List.set_cons_zero]
          refine wpAnyH_take (i := 7) (v := ?v7_10) rfl (by kernel_rfl) (by kernel_rfl) (by kernel_rfl) (fun _ _ _ h => h) (Or.inl ⟨by rfl, ?y7_10⟩) hS ?r7_10
          case y7_10 =>
            rintro W hH
            go_simp
            with_reducible rfl
          simp only [Act.put]
          try simp only [List.getElem_toArray, List.getElem_cons_succ, List.getElem_cons_zero]
          try simp only [List.setIfInBounds_toArray, List.set_cons_succ, List.set_cons_zero]
          refine wpAnyH_ready (rs := [9]) (by kernel_rfl) (by simp) ?_
          refine AllReadyH.cons rfl (fun K' hK' => ?_) AllReadyH.nil
          have q0 := hA.cell 0
          have q1 := hA.cell 1
          have q2 := hA.cell 2
          have q3 := hA.cell 3
          simp only [List.getElem?_toArray, List.getElem?_cons_zero, List.getElem?_cons_succ] at q0 q1 q2 q3
          have e0 := hA.frozen 0
          have e1 := hA.frozen 1
          have e2 := hA.frozen 2
          have e3 := hA.frozen 3
          have hAl := hA.lt
          go_simp
          obtain ⟨Y4, hY4⟩ : ∃ Y : World, (((Y3.setCell ⟨gA, 0, none⟩ (.int .i64 ((readAnswerP x.ask b).getD rep0).fn)).setCell ⟨gA, 1, none⟩ (.int .i64 ((readAnswerP x.ask b).getD rep0).code)).setCell ⟨gA, 2, none⟩ (.slice Ab nb cb)).setCell ⟨gA, 3, none⟩ (.slice Ar nr cr) = Y := ⟨_, rfl⟩
          have hA4 : Held Y4 gA 68 #[.int .i64 ((readAnswerP x.ask b).getD rep0).fn, .int .i64 ((readAnswerP x.ask b).getD rep0).code, .slice Ab nb cb, .slice Ar nr cr] := by rw [← hY4]; have := (((hA.set 0 (.int .i64 ((readAnswerP x.ask b).getD rep0).fn)).set 1 (.int .i64 ((readAnswerP x.ask b).getD rep0).code)).set 2 (.slice Ab nb cb)).set 3 (.slice Ar nr cr); simpa using this
          have hSn : Below V.heap.size V Y4 := by rw [← hY4]; exact (((hS.setCell (p := ⟨gA, 0, none⟩) hgA _).setCell (p := ⟨gA, 1, none⟩) hgA _).setCell (p := ⟨gA, 2, none⟩) hgA _).setCell (p := ⟨gA, 3, none⟩) hgA _
          have hAr4 : SlI Y4 Y4.heap.size .u16 Ar nr cr ((readAnswerP x.ask b).getD rep0).regs := by rw [← hY4]; exact hAr.far4 hA _ _ _ _
          rw [hY4]
          refine hK'.out _ _ hSn (fun hS => ?_)
          clear hK' K'
          refine wpAnyH_take (i := 10) (v := ?v10_11) rfl (by kernel_rfl) (by kernel_rfl) (by kernel_rfl) (fun _ _ _ h => h) (Or.inl ⟨by rfl, ?y10_11⟩) hS ?r10_11
          case y10_11 =>
            rintro W hH
            go_simp
            with_reducible rfl
          simp only [Act.put]
          try simp only [List.getElem_toArray, List.getElem_cons_succ, List.getElem_cons_zero]
          try simp only [List.setIfInBounds_toArray, List.set_cons_succ, List.set_cons_zero]
          refine wpAnyH_done (by kernel_rfl) ?_ _
          go_wp2_with fail
          go_meet
          case rel => exact ⟨_, Ab, nb, cb, Ar, nr, cr, rfl, rfl, hA4, hAr4, hS⟩
      · skip
        go_simp
        obtain ⟨Y1, hY1⟩ : ∃ Y : World, wd8.alloc (.cells #[.int .i64 0, .int .i64 0, .slice none 0 0, .slice none 0 0] 68) = Y := ⟨_, rfl⟩
        have bk : Below wd8.heap.size wd8 Y1 := by rw [← hY1]; exact (Below.refl _ _).alloc (Nat.le_refl _) _
        have hA : Held Y1 wd8.heap.size 68 #[.int .i64 0, .int .i64 0, .slice none 0 0, .slice none 0 0] := by rw [← hY1]; exact Held.new _ _ _
        have hgA : V.heap.size ≤ wd8.heap.size := hS.size
        rw [hY1]
        obtain ⟨gA, hgAe⟩ : ∃ gA, wd8.heap.size = gA := ⟨_, rfl⟩
        rw [hgAe] at hA hgA ⊢
        have hSn := hS.trans (bk.mono hS.size)
        clear bk hY1 hgAe
        refine hK'.out _ _ hSn (fun hS => ?_)
        clear hK' K'
        refine wpAnyH_ready (rs := [1]) (by kernel_rfl) (by simp) ?_
        refine AllReadyH.cons rfl (fun K' hK' => ?_) AllReadyH.nil
        go_simp
        refine (ask_any x _).mono ?_
        rintro e Y2 ⟨rfl, bk⟩
        dsimp only
        have hA := hA.below bk hA.lt
        have hSn := hS.trans (bk.mono hS.size)
        clear bk
        refine hK'.out _ _ hSn (fun hS => ?_)
        clear hK' K'
        refine wpAnyH_ready (rs := [4]) (by kernel_rfl) (by simp) ?_
        refine AllReadyH.cons rfl (fun K' hK' => ?_) AllReadyH.nil
        go_simp
        have hTc := HV.out.2.2.2.2.2.1.up hS
        have hSc := HV.out.2.2.2.2.1.up hS
        have hAc : AskAt Y2 (.agg #[.int .i64 x.fn, .int .i64 x.addr, .int .i64 2, .int .i64 0, .slice none 0 0, .slice none 0 0]) x.ask := ⟨none, 0, 0, none, 0, 0, rfl, SlB.nil _ _, SlI.nil _ _ _⟩
        refine (readanswer_own _ x.ask B n cc b _ hTc hAc (fun z hz => by cases hz) hSc hb8 hnn HW.out.2.2.2.2.2.1).mono ?_
        rintro e Y3 ⟨v, rfl, ⟨Ab, nb, cb, Ar, nr, cr, rfl, hAb, hAr⟩, bk⟩
        dsimp only
        have hA := hA.below bk hA.lt
        have hSn := hS.trans (bk.mono hS.size)
        clear bk hTc hSc hAc hAb
        refine hK'.out _ _ hSn (fun hS => ?_)
        clear hK' K'
        refine wpAnyH_take (i := 5) (v := ?v5_12) rfl (by kernel_rfl) (by kernel_rfl) (by kernel_rfl) (fun _ _ _ h => h) (Or.inl ⟨by rfl, ?y5_12⟩) hS ?r5_12
        case y5_12 =>
          rintro W hH
          go_simp
          with_reducible rfl
        simp only [Act.put]
        try simp only [List.getElem_toArray, List.getElem_cons_succ, List.getElem_cons_zero]
        try simp only [List.setIfInBounds_toArray, List.set_cons_succ, List.set_cons_zero]
        refine wpAnyH_take (i := 6) (v := ?v6_13) rfl (by kernel_rfl) (by kernel_rfl) (by kernel_rfl) (fun _ _ _ h => h) (Or.inl ⟨by rfl, ?y6_13⟩) hS ?r6_13
        case y6_13 =>
          rintro W hH
          go_simp
          with_reducible rfl
        simp only [Act.put]
        try simp only [List.getElem_toArray, List.getElem_cons_succ, List.getElem_cons_zero]
        try simp only [List.setIfInBounds_toArray, List.set_cons_succ, List.set_cons_zero]
        refine wpAnyH_take (i := 7) (v := ?v7_14) rfl (by kernel_rfl) (by kernel_rfl) (by kernel_rfl) (fun _ _ _ h => h) (Or.inl ⟨by rfl, ?y7_14⟩) hS ?r7_14
        case y7_14 =>
          rintro W hH
          go_simp
          with_reducible rfl
        simp only [Act.put]
        try simp only [List.getElem_toArray, List.getElem_cons_succ, List.getElem_cons_zero]
        try simp only [List.setIfInBounds_toArray, List.set_cons_succ, List.set_cons_zero]
        refine wpAnyH_ready (rs := [9]) (by kernel_rfl) (by simp) ?_
        refine AllReadyH.cons rfl (fun K' hK' => ?_) AllReadyH.nil
        have q0 := hA.cell 0
        have q1 := hA.cell 1
        have q2 := hA.cell 2
        have q3 := hA.cell 3
        simp only [List.getElem?_toArray, List.getElem?_cons_zero, List.getElem?_cons_succ] at q0 q1 q2 q3
        have e0 := hA.frozen 0
        have e1 := hA.frozen 1
        have e2 := hA.frozen 2
        have e3 := hA.frozen 3
        have hAl := hA.lt
        go_simp
        obtain ⟨Y4, hY4⟩ : ∃ Y : World, (((Y3.setCell ⟨gA, 0, none⟩ (.int .i64 ((readAnswerP x.ask b).getD rep0).fn)).setCell ⟨gA, 1, none⟩ (.int .i64 ((readAnswerP x.ask b).getD rep0).code)).setCell ⟨gA, 2, none⟩ (.slice Ab nb cb)).setCell ⟨gA, 3, none⟩ (.slice Ar nr cr) = Y := ⟨_, rfl⟩
        have hA4 : Held Y4 gA 68 #[.int .i64 ((readAnswerP x.ask b).getD rep0).fn, .int .i64 ((readAnswerP x.ask b).getD rep0).code, .slice Ab nb cb, .slice Ar nr cr] := by rw [← hY4]; have := (((hA.set 0 (.int .i64 ((readAnswerP x.ask b).getD rep0).fn)).set 1 (.int .i64 ((readAnswerP x.ask b).getD rep0).code)).set 2 (.slice Ab nb cb)).set 3 (.slice Ar nr cr); simpa using this
        have hSn : Below V.heap.size V Y4 := by rw [← hY4]; exact (((hS.setCell (p := ⟨gA, 0, none⟩) hgA _).setCell (p := ⟨gA, 1, none⟩) hgA _).setCell (p := ⟨gA, 2, none⟩) hgA _).setCell (p := ⟨gA, 3, none⟩) hgA _
        have hAr4 : SlI Y4 Y4.heap.size .u16 Ar nr cr ((readAnswerP x.ask b).getD rep0).regs := by rw [← hY4]; exact hAr.far4 hA _ _ _ _
        rw [hY4]
        refine hK'.out _ _ hSn (fun hS => ?_)
        clear hK' K'
        refine wpAnyH_take (i := 10) (v := ?v10_15) rfl (by kernel_rfl) (by kernel_rfl) (by kernel_rfl) (fun _ _ _ h => h) (Or.inl ⟨by rfl, ?y10_15⟩) hS ?r10_15
        case y10_15 =>
          rintro W hH
          go_simp
          with_reducible rfl
        simp only [Act.put]
        try simp only [List.getElem_toArray, List.getElem_cons_succ, List.getElem_cons_zero]
        try simp only [List.setIfInBounds_toArray, List.set_cons_succ, List.set_cons_zero]
        refine wpAnyH_done (by kernel_rfl) ?_ _
        go_wp2_with fail
        go_meet
        case rel => exact ⟨_, Ab, nb, cb, Ar, nr, cr, rfl, rfl, hA4, hAr4, hS⟩
    case rest =>
      obtain ⟨gA, Ab, nb, cb, Ar, nr, cr, rfl, rfl, hA, hAr, hbW⟩ := hcut
      obtain ⟨hPV, hFV, hRV, hBV, hSV, hTV, hXV⟩ := HV.out
      have hPW := hPV.up hbW
      have hFW := hFV.below hbW hFV.lt
      have hRW := hRV.below hbW hRV.lt
      have hXW := hXV.below hbW hXV.lt
      have hBW := hBV.trans (Bt.of_below hbW)
      have a0 := hFW.cell 0
      have y0 := hXW.cell 0
      have y3 := hXW.cell 3
      have g1 := hA.cell 1
      have g3 := hA.cell 3
      have r0 := hRW.cell 0
      have r1 := hRW.cell 1
      have fr0 := hRW.frozen 0
      have fr1 := hRW.frozen 1
      have hrl := hRW.lt
      simp only [List.getElem?_toArray, List.getElem?_cons_zero, List.getElem?_cons_succ] at a0 y0 y3 g1 g3 r0 r1
      have HW2 := Lib.hid (And.intro hPW (And.intro hRW (And.intro hBW hAr)))
      clear hPV hFV hRV hBV hSV hTV hXV hPW hFW hRW hXW hBW hA hAr hbW HV HRD
      have HNO : Hid ((∀ r, readAnswerP x.ask b = some r → unit = x.unit → r.code ≠ 0) → HearPost w g gl cap c s t unit b (.returned (.tuple #[.agg #[.int .i64 0, .int .u32 0], .bool false, .int .i64 0])) ((wc.setCell ⟨w.heap.size + 1, 0, none⟩ (.int .i64 0)).setCell ⟨w.heap.size + 1, 1, none⟩ (.int .u32 0))) := Lib.hid (fun hno => ⟨0, 0, false, _, rfl, (HW2.out.1.far (by omega) (by omega) _).far (by omega) (by omega) _, (HW2.out.2.2.1.new (by omega) _).new (by omega) _, .inl rfl, fun k' x' r q1 q2 q3 q4 q5 q6 q7 => by
        have e1 := HW.out.2.2.1
        rw [q3] at e1
        obtain rfl : k' = k := by omega
        have e2 := HW.out.2.2.2.1
        rw [q4] at e2
        cases e2
        exact absurd q7 (hno r q5 q6)⟩)
      obtain ⟨ra, hra⟩ : ∃ ra, readAnswerP x.ask b = ra := ⟨_, rfl⟩
      have HRA := Lib.hid hra
      rw [hra] at g1 HW2 HNO ⊢
      clear hra
      cases ra with
      | none =>
        have HNN := Lib.hid (HNO.out (fun r q => by cases q))
        clear HNO
        dsimp only [errV, Option.isSome, Option.getD] at g1 ⊢
        go_wp2
        exact bodyPost_ret (results_cell2 rfl _ _ _ _ _ _ _ _ (by kernel_rfl) (by kernel_rfl) (by kernel_rfl) (set2 HW2.out.2.1 _ _) Tryd.underlying95 (by kernel_rfl) (by kernel_rfl)) rfl HNN.out
      | some r =>
        dsimp only [errV, Option.isSome, Option.getD] at g1 HW2 ⊢
        by_cases hu : unit = x.unit
        case neg =>
          have HNN := Lib.hid (HNO.out (fun r q1 q2 => absurd q2 hu))
          have hub : (unit != x.unit) = true := by simp [hu]
          clear HNO hu
          go_wp2
          exact bodyPost_ret (results_cell2 rfl _ _ _ _ _ _ _ _ (by kernel_rfl) (by kernel_rfl) (by kernel_rfl) (set2 HW2.out.2.1 _ _) Tryd.underlying95 (by kernel_rfl) (by kernel_rfl)) rfl HNN.out
        case pos =>
          have HU := Lib.hid hu
          rw [hu] at a0
          clear hu
          obtain ⟨s1, hs1⟩ : ∃ s1 : PSt, { s with now := t } = s1 := ⟨_, rfl⟩
          have HS1 := Lib.hid (show s1.l = s.l ∧ s1.opn = s.opn ∧ s1.now = t ∧ s1.waits = s.waits ∧ s1.began = s.began from by subst hs1; exact ⟨rfl, rfl, rfl, rfl, rfl⟩)
          have hx1 : s1.l[k]? = some x := by rw [HS1.out.1]; exact HW.out.2.2.2.1
          have ho1 : s1.opn = (k : Int) := by rw [HS1.out.2.1]; exact HW.out.2.2.1
          have hw1 : s1.waits = true := by rw [HS1.out.2.2.2.1]; exact HW.out.1
          have hP1 : PolAt wc g gl cap c s1 := by rw [← hs1]; exact HW2.out.1
          have HE1 := Lib.hid hs1
          have hnb : -9223372036854775808 ≤ s1.now + c.sil ∧ s1.now + c.sil ≤ 9223372036854775807 := by rw [HS1.out.2.2.1]; omega
          by_cases hcd : r.code = 0
          case neg =>
            have HFA := Lib.hid (fail_any g gl cap c s1 k x wc hP1 ho1 hx1 hnb ⟨hxf1, hxf2⟩)
            have hcb : (r.code != 0) = true := by simp [hcd]
            have HPO : Hid (∀ w9, PolAt w9 g gl cap c (failP c s1).1 → Bt g gl wc w9 → HearPost w g gl cap c s t unit b (.returned (.tuple #[.agg #[.int .i64 0, .int .u32 0], .bool false, .int .i64 0])) ((w9.setCell ⟨w.heap.size + 1, 0, none⟩ (.int .i64 0)).setCell ⟨w.heap.size + 1, 1, none⟩ (.int .u32 0))) := Lib.hid (fun w9 q1 q2 => ⟨0, 0, false, (failP c s1).1, rfl, (q1.far (by omega) (by omega) _).far (by omega) (by omega) _, ((HW2.out.2.2.1.trans q2).new (by omega) _).new (by omega) _, .inr ⟨hw1 |> fun q => by rw [HE1.out]; exact q, by rw [HE1.out, ho1]; omega, .inl (by rw [HE1.out])⟩, fun k' x' r' q3 q4 q5 q6 q7 q8 q9 => by
              have e1 := HW.out.2.2.1
              rw [q5] at e1
              obtain rfl : k' = k := by omega
              have e2 := HW.out.2.2.2.1
              rw [q6] at e2
              cases e2
              rw [HRA.out] at q7
              cases q7
              exact absurd q9 hcd⟩)
            clear HNO hcd hx1 ho1 hw1 hP1 hs1 hnb
            go_wp2_with (go_at_call 80; refine HFA.out.mono ?_; rintro e w9 ⟨rfl, hP9, b9⟩; have hR9 := b9.held HW2.out.2.1 (by omega) (by omega); have t0 := hR9.cell 0; have t1 := hR9.cell 1; have ft0 := hR9.frozen 0; have ft1 := hR9.frozen 1; have hrl9 := hR9.lt; simp only [List.getElem?_toArray, List.getElem?_cons_zero, List.getElem?_cons_succ] at t0 t1; have HPP := Lib.hid (HPO.out w9 hP9 b9); have HR9 := Lib.hid hR9; clear hP9 b9 hR9)
            exact bodyPost_ret (results_cell2 rfl _ _ _ _ _ _ _ _ (by kernel_rfl) (by kernel_rfl) (by kernel_rfl) (set2 HR9.out _ _) Tryd.underlying95 (by kernel_rfl) (by kernel_rfl)) rfl HPP.out
          case pos =>
            rw [hcd] at g1
            have hrg : ∀ z ∈ r.regs, 0 ≤ z ∧ z < 65536 := ra_regs hb8 HRA.out
            have HVA := Lib.hid (value_sl Ar nr cr r.regs x.order wc HW2.out.2.2.2 hrg)
            clear HNO
            go_wp2_with (go_at_call 85; refine HVA.out.mono ?_; rintro e w8 ⟨rfl, hb8'⟩)
            have hP8 := hP1.up hb8'
            have hR8 := HW2.out.2.1.below hb8' HW2.out.2.1.lt
            have hB8 := HW2.out.2.2.1.trans (Bt.of_below hb8')
            have H8 := Lib.hid (And.intro hP8 (And.intro hR8 hB8))
            have hne := hP8.ne
            have hz8 := hB8.size
            have hkl1 : k < s1.l.length := (List.getElem?_eq_some_iff.1 hx1).1
            have hkI1 : (k : Int) < (s1.l.length : Int) := by omega
            obtain ⟨vx, hvx⟩ : ∃ v, valX r.regs x.order = v := ⟨_, rfl⟩
            rw [hvx]
            have HVX := Lib.hid hvx
            have hbeg : IntKind.i64.wrap (s1.began + c.per) = s1.began + c.per := by
              have := HS1.out.2.2.2.2
              simp only [IntKind.wrap_i64]; omega
            have HX1 := Lib.hid hx1
            have HO1 := Lib.hid ho1
            have HW1 := Lib.hid hw1
            have HNB := Lib.hid hnb
            obtain ⟨_, _, _, p4, _, p6, p7, p8, p9, _⟩ := hP8.cells
            clear hP8 hR8 hB8 hb8' hvx hx1 ho1 hw1 hP1 hs1 hnb HVA hcd g1 g3 a0 y0 y3 r0 r1 fr0 fr1 p7 p8
            obtain ⟨wd15, hwd15⟩ : ∃ W : World, w8.drew = W := ⟨_, rfl⟩
            have hS : HrS g gl cap s1.l.length c s1.began wd15 := by rw [← hwd15]; exact ⟨p6, p4, p9⟩
            have hPc : PolAt wd15 g gl cap c s1 := by rw [← hwd15]; exact H8.out.1
            have hBc : Bt g gl w wd15 := by rw [← hwd15]; exact H8.out.2.2.drew
            have hRc : Held wd15 (w.heap.size + 1) 95 #[.int .i64 0, .int .u32 0] := by rw [← hwd15]; exact H8.out.2.1
            refine wp_region_held (S := HrS g gl cap s1.l.length c s1.began) (by kernel_rfl) ?_
            change wpAnyH _ _ _ _ _ _ _ _ w8.drew
            rw [hwd15]
            clear hwd15 p4 p6 p9
            refine wpAnyH_take (i := 0) (v := ?v0_201) rfl (by kernel_rfl) (by kernel_rfl) (by kernel_rfl) (fun _ _ _ h => h) (Or.inl ⟨by rfl, ?y0_201⟩) hS ?r0_201
            case y0_201 =>
              rintro W hH
              go_simp
              with_reducible rfl
            simp only [Act.put]
            try simp only [List.getElem_toArray, List.getElem_cons_zero]
            try simp only [List.setIfInBounds_toArray, List.set_cons_succ, List.set_cons_zero]
            refine wpAnyH_take (i := 1) (v := ?v1_202) rfl (by kernel_rfl) (by kernel_rfl) (by kernel_rfl) (fun _ _ _ h => h) (Or.inl ⟨by rfl, ?y1_202⟩) hS ?r1_202
            case y1_202 =>
              rintro W hH
              go_simp
              with_reducible rfl
            simp only [Act.put]
            try simp only [List.getElem_toArray, List.getElem_cons_succ, List.getElem_cons_zero]
            try simp only [List.setIfInBounds_toArray, List.set_cons_succ, List.set_cons_zero]
            refine wpAnyH_take (i := 2) (v := ?v2_203) rfl (by kernel_rfl) (by kernel_rfl) (by kernel_rfl) (fun _ _ _ h => h) (Or.inl ⟨by rfl, ?y2_203⟩) hS ?r2_203
            case y2_203 =>
              rintro W hH
              go_simp
              with_reducible rfl
            simp only [Act.put]
            try simp only [List.getElem_toArray, List.getElem_cons_succ, List.getElem_cons_zero]
            try simp only [List.setIfInBounds_toArray, List.set_cons_succ, List.set_cons_zero]
            refine wpAnyH_take (i := 3) (v := ?v3_204) rfl (by kernel_rfl) (by kernel_rfl) (by kernel_rfl) (fun _ _ _ h => h) (Or.inl ⟨by rfl, ?y3_204⟩) hS ?r3_204
            case y3_204 =>
              rintro W hH
              obtain ⟨n6, n4, n9⟩ := hH
              go_simp
              with_reducible rfl
            simp only [Act.put]
            try simp only [List.getElem_toArray, List.getElem_cons_succ, List.getElem_cons_zero]
            try simp only [List.setIfInBounds_toArray, List.set_cons_succ, List.set_cons_zero]
            refine wpAnyH_take (i := 4) (v := ?v4_205) rfl (by kernel_rfl) (by kernel_rfl) (by kernel_rfl) (fun _ _ _ h => h) (Or.inl ⟨by rfl, ?y4_205⟩) hS ?r4_205
            case y4_205 =>
              rintro W hH
              go_simp
              with_reducible rfl
            simp only [Act.put]
            try simp only [List.getElem_toArray, List.getElem_cons_succ, List.getElem_cons_zero]
            try simp only [List.setIfInBounds_toArray, List.set_cons_succ, List.set_cons_zero]
            refine wpAnyH_take (i := 5) (v := ?v5_206) rfl (by kernel_rfl) (by kernel_rfl) (by kernel_rfl) (fun _ _ _ h => h) (Or.inl ⟨by rfl, ?y5_206⟩) hS ?r5_206
            case y5_206 =>
              rintro W hH
              go_simp
              with_reducible rfl
            simp only [Act.put]
            try simp only [List.getElem_toArray, List.getElem_cons_succ, List.getElem_cons_zero]
            try simp only [List.setIfInBounds_toArray, List.set_cons_succ, List.set_cons_zero]
            refine wpAnyH_take (i := 6) (v := ?v6_207) rfl (by kernel_rfl) (by kernel_rfl) (by kernel_rfl) (fun _ _ _ h => h) (Or.inl ⟨by rfl, ?y6_207⟩) hS ?r6_207
            case y6_207 =>
              rintro W hH
              go_simp
              with_reducible rfl
            simp only [Act.put]
            try simp only [List.getElem_toArray, List.getElem_cons_succ, List.getElem_cons_zero]
            try simp only [List.setIfInBounds_toArray, List.set_cons_succ, List.set_cons_zero]
            refine wpAnyH_take (i := 7) (v := ?v7_208) rfl (by kernel_rfl) (by kernel_rfl) (by kernel_rfl) (fun _ _ _ h => h) (Or.inl ⟨by rfl, ?y7_208⟩) hS ?r7_208
            case y7_208 =>
              rintro W hH
              go_simp
              with_reducible rfl
            simp only [Act.put]
            try simp only [List.getElem_toArray, List.getElem_cons_succ, List.getElem_cons_zero]
            try simp only [List.setIfInBounds_toArray, List.set_cons_succ, List.set_cons_zero]
            refine wpAnyH_take (i := 8) (v := ?v8_209) rfl (by kernel_rfl) (by kernel_rfl) (by kernel_rfl) (fun _ _ _ h => h) (Or.inl ⟨by rfl, ?y8_209⟩) hS ?r8_209
            case y8_209 =>
              rintro W hH
              obtain ⟨n6, n4, n9⟩ := hH
              go_simp
              with_reducible rfl
            simp only [Act.put]
            try simp only [List.getElem_toArray, List.getElem_cons_succ, List.getElem_cons_zero]
            try simp only [List.setIfInBounds_toArray, List.set_cons_succ, List.set_cons_zero]
            refine wpAnyH_take (i := 9) (v := ?v9_210) rfl (by kernel_rfl) (by kernel_rfl) (by kernel_rfl) (fun _ _ _ h => h) (Or.inl ⟨by rfl, ?y9_210⟩) hS ?r9_210
            case y9_210 =>
              rintro W hH
              go_simp
              with_reducible rfl
            simp only [Act.put]
            try simp only [List.getElem_toArray, List.getElem_cons_succ, List.getElem_cons_zero]
            try simp only [List.setIfInBounds_toArray, List.set_cons_succ, List.set_cons_zero]
            refine wpAnyH_take (i := 10) (v := ?v10_211) rfl (by kernel_rfl) (by kernel_rfl) (by kernel_rfl) (fun _ _ _ h => h) (Or.inl ⟨by rfl, ?y10_211⟩) hS ?r10_211
            case y10_211 =>
              rintro W hH
              go_simp
              with_reducible rfl
            simp only [Act.put]
            try simp only [List.getElem_toArray, List.getElem_cons_succ, List.getElem_cons_zero]
            try simp only [List.setIfInBounds_toArray, List.set_cons_succ, List.set_cons_zero]
            refine wpAnyH_take (i := 11) (v := ?v11_212) rfl (by kernel_rfl) (by kernel_rfl) (by kernel_rfl) (fun _ _ _ h => h) (Or.inl ⟨by rfl, ?y11_212⟩) hS ?r11_212
            case y11_212 =>
              rintro W hH
              go_simp
              with_reducible rfl
            simp only [Act.put]
            try simp only [List.getElem_toArray, List.getElem_cons_succ, List.getElem_cons_zero]
            try simp only [List.setIfInBounds_toArray, List.set_cons_succ, List.set_cons_zero]
            refine wpAnyH_take (i := 12) (v := ?v12_213) rfl (by kernel_rfl) (by kernel_rfl) (by kernel_rfl) (fun _ _ _ h => h) (Or.inl ⟨by rfl, ?y12_213⟩) hS ?r12_213
            case y12_213 =>
              rintro W hH
              go_simp
              with_reducible rfl
            simp only [Act.put]
            try simp only [List.getElem_toArray, List.getElem_cons_succ, List.getElem_cons_zero]
            try simp only [List.setIfInBounds_toArray, List.set_cons_succ, List.set_cons_zero]
            refine wpAnyH_take (i := 13) (v := ?v13_214) rfl (by kernel_rfl) (by kernel_rfl) (by kernel_rfl) (fun _ _ _ h => h) (Or.inl ⟨by rfl, ?y13_214⟩) hS ?r13_214
            case y13_214 =>
              rintro W hH
              go_simp
              with_reducible rfl
            simp only [Act.put]
            try simp only [List.getElem_toArray, List.getElem_cons_succ, List.getElem_cons_zero]
            try simp only [List.setIfInBounds_toArray, List.set_cons_succ, List.set_cons_zero]
            refine wpAnyH_take (i := 14) (v := ?v14_215) rfl (by kernel_rfl) (by kernel_rfl) (by kernel_rfl) (fun _ _ _ h => h) (Or.inl ⟨by rfl, ?y14_215⟩) hS ?r14_215
            case y14_215 =>
              rintro W hH
              obtain ⟨n6, n4, n9⟩ := hH
              go_simp
              with_reducible rfl
            simp only [Act.put]
            try simp only [List.getElem_toArray, List.getElem_cons_succ, List.getElem_cons_zero]
            try simp only [List.setIfInBounds_toArray, List.set_cons_succ, List.set_cons_zero]
            refine wpAnyH_take (i := 15) (v := ?v15_216) rfl (by kernel_rfl) (by kernel_rfl) (by kernel_rfl) (fun _ _ _ h => h) (Or.inl ⟨by rfl, ?y15_216⟩) hS ?r15_216
            case y15_216 =>
              rintro W hH
              go_simp
              with_reducible rfl
            simp only [Act.put]
            try simp only [List.getElem_toArray, List.getElem_cons_succ, List.getElem_cons_zero]
            try simp only [List.setIfInBounds_toArray, List.set_cons_succ, List.set_cons_zero]
            refine wpAnyH_take (i := 16) (v := ?v16_217) rfl (by kernel_rfl) (by kernel_rfl) (by kernel_rfl) (fun _ _ _ h => h) (Or.inl ⟨by rfl, ?y16_217⟩) hS ?r16_217
            case y16_217 =>
              rintro W hH
              go_simp
              with_reducible rfl
            simp only [Act.put]
            try simp only [List.getElem_toArray, List.getElem_cons_succ, List.getElem_cons_zero]
            try simp only [List.setIfInBounds_toArray, List.set_cons_succ, List.set_cons_zero]
            refine wpAnyH_take (i := 17) (v := ?v17_218) rfl (by kernel_rfl) (by kernel_rfl) (by kernel_rfl) (fun _ _ _ h => h) (Or.inl ⟨by rfl, ?y17_218⟩) hS ?r17_218
            case y17_218 =>
              rintro W hH
              go_simp
              with_reducible rfl
            simp only [Act.put]
            try simp only [List.getElem_toArray, List.getElem_cons_succ, List.getElem_cons_zero]
            try simp only [List.setIfInBounds_toArray, List.set_cons_succ, List.set_cons_zero]
            refine wpAnyH_take (i := 18) (v := ?v18_219) rfl (by kernel_rfl) (by kernel_rfl) (by kernel_rfl) (fun _ _ _ h => h) (Or.inl ⟨by rfl, ?y18_219⟩) hS ?r18_219
            case y18_219 =>
              rintro W hH
              go_simp
              with_reducible rfl
            simp only [Act.put]
            try simp only [List.getElem_toArray, List.getElem_cons_succ, List.getElem_cons_zero]
            try simp only [List.setIfInBounds_toArray, List.set_cons_succ, List.set_cons_zero]
            refine wpAnyH_take (i := 19) (v := ?v19_220) rfl (by kernel_rfl) (by kernel_rfl) (by kernel_rfl) (fun _ _ _ h => h) (Or.inl ⟨by rfl, ?y19_220⟩) hS ?r19_220
            case y19_220 =>
              rintro W hH
              obtain ⟨n6, n4, n9⟩ := hH
              go_simp
              with_reducible rfl
            simp only [Act.put]
            try simp only [List.getElem_toArray, List.getElem_cons_succ, List.getElem_cons_zero]
            try simp only [List.setIfInBounds_toArray, List.set_cons_succ, List.set_cons_zero]
            refine wpAnyH_take (i := 20) (v := ?v20_221) rfl (by kernel_rfl) (by kernel_rfl) (by kernel_rfl) (fun _ _ _ h => h) (Or.inl ⟨by rfl, ?y20_221⟩) hS ?r20_221
            case y20_221 =>
              rintro W hH
              go_simp
              with_reducible rfl
            simp only [Act.put]
            try simp only [List.getElem_toArray, List.getElem_cons_succ, List.getElem_cons_zero]
            try simp only [List.setIfInBounds_toArray, List.set_cons_succ, List.set_cons_zero]
            refine wpAnyH_take (i := 21) (v := ?v21_222) rfl (by kernel_rfl) (by kernel_rfl) (by kernel_rfl) (fun _ _ _ h => h) (Or.inl ⟨by rfl, ?y21_222⟩) hS ?r21_222
            case y21_222 =>
              rintro W hH
              go_simp
              with_reducible rfl
            simp only [Act.put]
            try simp only [List.getElem_toArray, List.getElem_cons_succ, List.getElem_cons_zero]
            try simp only [List.setIfInBounds_toArray, List.set_cons_succ, List.set_cons_zero]
            refine wpAnyH_take (i := 22) (v := ?v22_223) rfl (by kernel_rfl) (by kernel_rfl) (by kernel_rfl) (fun _ _ _ h => h) (Or.inl ⟨by rfl, ?y22_223⟩) hS ?r22_223
            case y22_223 =>
              rintro W hH
              go_simp
              with_reducible rfl
            simp only [Act.put]
            try simp only [List.getElem_toArray, List.getElem_cons_succ, List.getElem_cons_zero]
            try simp only [List.setIfInBounds_toArray, List.set_cons_succ, List.set_cons_zero]
            refine wpAnyH_ready (rs := [23]) (by kernel_rfl) (by simp) ?_
            refine AllReadyH.cons rfl (fun K' hK' => ?_) AllReadyH.nil
            obtain ⟨_, _, _, _, m4, m5, _⟩ := hPc.point (k := k) (x := x) HX1.out
            have ff5 := hPc.frozen' (k * 7 + 5)
            have hlc := hPc.lt
            go_simp
            obtain ⟨Z1, hZ1⟩ : ∃ Y : World, wd15.setCell ⟨gl, k * 7 + 5, none⟩ (.int .i64 0) = Y := ⟨_, rfl⟩
            have hPc : PolAt Z1 g gl cap c { s1 with l := s1.l.set k { x with fails := 0 } } := by rw [← hZ1]; exact hPc.putPt HX1.out 5 _ { x with fails := 0 } (by omega) rfl
            have hBc : Bt g gl w Z1 := by rw [← hZ1]; exact hBc.set _ _ (.inr rfl) _
            have hRc : Held Z1 (w.heap.size + 1) 95 #[.int .i64 0, .int .u32 0] := by rw [← hZ1]; exact hRc.far (by simp; omega) _
            have hSn : HrS g gl cap s1.l.length c s1.began Z1 := by rw [← hZ1]; exact hS.far hne _
            rw [hZ1]
            clear hZ1 m4 m5 ff5
            refine hK'.out _ _ hSn (fun hS => ?_)
            clear hK' K'
            refine wpAnyH_take (i := 24) (v := ?v24_224) rfl (by kernel_rfl) (by kernel_rfl) (by kernel_rfl) (fun _ _ _ h => h) (Or.inl ⟨by rfl, ?y24_224⟩) hS ?r24_224
            case y24_224 =>
              rintro W hH
              go_simp
              with_reducible rfl
            simp only [Act.put]
            try simp only [List.getElem_toArray, List.getElem_cons_succ, List.getElem_cons_zero]
            try simp only [List.setIfInBounds_toArray, List.set_cons_succ, List.set_cons_zero]
            refine wpAnyH_take (i := 25) (v := ?v25_225) rfl (by kernel_rfl) (by kernel_rfl) (by kernel_rfl) (fun _ _ _ h => h) (Or.inl ⟨by rfl, ?y25_225⟩) hS ?r25_225
            case y25_225 =>
              rintro W hH
              go_simp
              with_reducible rfl
            simp only [Act.put]
            try simp only [List.getElem_toArray, List.getElem_cons_succ, List.getElem_cons_zero]
            try simp only [List.setIfInBounds_toArray, List.set_cons_succ, List.set_cons_zero]
            refine wpAnyH_ready (rs := [26]) (by kernel_rfl) (by simp) ?_
            refine AllReadyH.cons rfl (fun K' hK' => ?_) AllReadyH.nil
            have hxk : (s1.l.set k { x with fails := 0 })[k]? = some { x with fails := 0 } := by rw [List.getElem?_set_self hkl1]
            obtain ⟨_, _, _, _, m4, m5, _⟩ := hPc.point (k := k) (x := { x with fails := 0 }) hxk
            have ff4 := hPc.frozen' (k * 7 + 4)
            have hlc := hPc.lt
            go_simp
            obtain ⟨Z2, hZ2⟩ : ∃ Y : World, Z1.setCell ⟨gl, k * 7 + 4, none⟩ (.int .i64 (s1.began + c.per)) = Y := ⟨_, rfl⟩
            have hPc : PolAt Z2 g gl cap c { s1 with l := s1.l.set k { x with fails := 0, due := s1.began + c.per } } := by rw [← hZ2]; have := hPc.putPt hxk 4 (.int .i64 (s1.began + c.per)) { x with fails := 0, due := s1.began + c.per } (by omega) rfl; rw [List.set_set] at this; exact this
            have hBc : Bt g gl w Z2 := by rw [← hZ2]; exact hBc.set _ _ (.inr rfl) _
            have hRc : Held Z2 (w.heap.size + 1) 95 #[.int .i64 0, .int .u32 0] := by rw [← hZ2]; exact hRc.far (by simp; omega) _
            have hSn : HrS g gl cap s1.l.length c s1.began Z2 := by rw [← hZ2]; exact hS.far hne _
            rw [hZ2]
            clear hZ2 m4 m5 ff4 hxk
            refine hK'.out _ _ hSn (fun hS => ?_)
            clear hK' K'
            refine wpAnyH_take (i := 27) (v := ?v27_226) rfl (by kernel_rfl) (by kernel_rfl) (by kernel_rfl) (fun _ _ _ h => h) (Or.inl ⟨by rfl, ?y27_226⟩) hS ?r27_226
            case y27_226 =>
              rintro W hH
              go_simp
              with_reducible rfl
            simp only [Act.put]
            try simp only [List.getElem_toArray, List.getElem_cons_succ, List.getElem_cons_zero]
            try simp only [List.setIfInBounds_toArray, List.set_cons_succ, List.set_cons_zero]
            refine wpAnyH_take (i := 28) (v := ?v28_227) rfl (by kernel_rfl) (by kernel_rfl) (by kernel_rfl) (fun _ _ _ h => h) (Or.inl ⟨by rfl, ?y28_227⟩) hS ?r28_227
            case y28_227 =>
              rintro W hH
              go_simp
              with_reducible rfl
            simp only [Act.put]
            try simp only [List.getElem_toArray, List.getElem_cons_succ, List.getElem_cons_zero]
            try simp only [List.setIfInBounds_toArray, List.set_cons_succ, List.set_cons_zero]
            refine wpAnyH_ready (rs := [29]) (by kernel_rfl) (by simp) ?_
            refine AllReadyH.cons rfl (fun K' hK' => ?_) AllReadyH.nil
            obtain ⟨_, _, _, _, _, _, _, m8, _⟩ := hPc.cells
            have ff8 := hPc.frozen 8
            have hlc := hPc.lt
            go_simp
            obtain ⟨Z3, hZ3⟩ : ∃ Y : World, Z2.setCell ⟨g, 8, none⟩ (.int .i64 (-1)) = Y := ⟨_, rfl⟩
            have hPc : PolAt Z3 g gl cap c { s1 with l := s1.l.set k { x with fails := 0, due := s1.began + c.per }, opn := -1 } := by rw [← hZ3]; exact hPc.put 8 _ { s1 with l := s1.l.set k { x with fails := 0, due := s1.began + c.per }, opn := -1 } rfl rfl
            have hBc : Bt g gl w Z3 := by rw [← hZ3]; exact hBc.set _ _ (.inl rfl) _
            have hRc : Held Z3 (w.heap.size + 1) 95 #[.int .i64 0, .int .u32 0] := by rw [← hZ3]; exact hRc.far (by simp; omega) _
            have hSn : HrS g gl cap s1.l.length c s1.began Z3 := by rw [← hZ3]; exact hS.open_ _
            rw [hZ3]
            clear hZ3 m8 ff8
            refine hK'.out _ _ hSn (fun hS => ?_)
            clear hK' K'
            refine wpAnyH_done (by kernel_rfl) ?_ _
            have HPC := Lib.hid hPc
            have HBC := Lib.hid hBc
            have HRC := Lib.hid hRc
            have hzc := hRc.lt
            clear hPc hBc hRc hS
            have HQ := Lib.hid (quiet_any g gl cap c _ Z3 HPC.out HNB.out)
            have HHE : heardP c s1 = quietP c { s1 with l := s1.l.set k { x with fails := 0, due := s1.began + c.per }, opn := -1 } := by unfold heardP; rw [HO1.out, Int.toNat_natCast, HX1.out]; rfl
            have HHE := Lib.hid HHE
            have HPO : Hid (∀ w9, PolAt w9 g gl cap c (heardP c s1) → Bt g gl Z3 w9 → HearPost w g gl cap c s t unit b (.returned (.tuple #[.agg #[.int .i64 k, .int .u32 (IntKind.u32.wrap vx)], .bool true, .int .i64 0])) ((w9.setCell ⟨w.heap.size + 1, 0, none⟩ (.int .i64 k)).setCell ⟨w.heap.size + 1, 1, none⟩ (.int .u32 (IntKind.u32.wrap vx)))) := Lib.hid (fun w9 q1 q2 => ⟨k, IntKind.u32.wrap vx, true, heardP c s1, rfl, (q1.far (by omega) (by omega) _).far (by omega) (by omega) _, ((HBC.out.trans q2).new (by omega) _).new (by omega) _, .inr ⟨by rw [HE1.out]; exact HW1.out, by rw [HE1.out, HO1.out]; omega, .inr (by rw [HE1.out])⟩, fun k' x' r' q3 q4 q5 q6 q7 q8 q9 => by
              have e1 := HW.out.2.2.1
              rw [q5] at e1
              obtain rfl : k' = k := by omega
              have e2 := HW.out.2.2.2.1
              rw [q6] at e2
              cases e2
              rw [HRA.out] at q7
              cases q7
              exact ⟨rfl, by rw [HVX.out], rfl, by rw [HE1.out]⟩⟩)
            go_wp2_with (go_at_call 86; refine HQ.out.mono ?_; rintro e w9 ⟨⟨v, rfl⟩, hP9, b9⟩; rw [← HHE.out] at hP9; have hR9 := b9.held HRC.out (by omega) (by omega); have t0 := hR9.cell 0; have t1 := hR9.cell 1; have ft0 := hR9.frozen 0; have ft1 := hR9.frozen 1; have hrl9 := hR9.lt; simp only [List.getElem?_toArray, List.getElem?_cons_zero, List.getElem?_cons_succ] at t0 t1; have HPP := Lib.hid (HPO.out w9 hP9 b9); have HR9 := Lib.hid hR9; clear hP9 b9 hR9)
            exact bodyPost_ret (results_cell2 rfl _ _ _ _ _ _ _ _ (by kernel_rfl) (by kernel_rfl) (by kernel_rfl) (set2 HR9.out _ _) Tryd.underlying95 (by kernel_rfl) (by kernel_rfl)) rfl HPP.out
end Go.Proofs.YtcipleanckeoaaaDoor
