/- kilowattref26.Read. -/
import Derived.Test.YtnnknnaimabehaaModRead
import Derived.Test.YtnnknnaimabehaaModRefImg
import Derived.Test.YtnnknnaimabehaaRegsLaws
namespace Go.Proofs.Ytnnknnaimabehaa
open Go.RowKit
set_option linter.unusedVariables false
set_option maxRecDepth 100000
theorem SlI.cell_at {w : World} {B : Nat} {k : IntKind} {g off n c : Nat} {xs : List Int} (h : SlI w B k (some ⟨g, off, none⟩) n c xs) {i : Nat} {x : Int} (hx : xs[i]? = some x) : w.cell? ⟨g, off + i, none⟩ = some (.int k x) := by
  obtain ⟨g', off', e, _, hc⟩ := h.2.2.2.2 (by have := (List.getElem?_eq_some_iff.1 hx).1; omega)
  injection e with e
  injection e with e1 e2
  subst e1 e2
  exact hc i x hx
theorem idx_keep (x : Int) (ds : List DefP) (q i : Nat) (h : idxP x (ds.take q) = some i) : idxP x (ds.take (q + 1)) = some i := by
  obtain ⟨d, h1, h2, h3⟩ := idxP_some _ _ _ h
  rw [List.getElem?_take] at h1
  split at h1
  · rename_i hq
    refine idxP_at x _ i d (by rw [List.getElem?_take, if_pos (by omega)]; exact h1) h2 (fun k e hk he => ?_)
    rw [List.getElem?_take, if_pos (by omega)] at he
    exact h3 k e hk (by rw [List.getElem?_take, if_pos (by omega)]; exact he)
  · cases h1
theorem idx_new (x : Int) (ds : List DefP) (q : Nat) (d : DefP) (h : idxP x (ds.take q) = none) (hd : ds[q]? = some d) (hx : d.id = x) : idxP x (ds.take (q + 1)) = some q := by
  refine idxP_at x _ q d (by rw [List.getElem?_take, if_pos (by omega)]; exact hd) hx (fun k e hk he => ?_)
  rw [List.getElem?_take, if_pos (by omega)] at he
  exact idxP_none x _ h k e (by rw [List.getElem?_take, if_pos hk]; exact he)
theorem idx_not (x : Int) (ds : List DefP) (q : Nat) (d : DefP) (h : idxP x (ds.take q) = none) (hd : ds[q]? = some d) (hx : d.id ≠ x) : idxP x (ds.take (q + 1)) = none := by
  refine idxP_no x _ (fun k e he => ?_)
  rw [List.getElem?_take] at he
  split at he
  · rename_i hk
    rcases Nat.lt_or_ge k q with h2 | h2
    · exact idxP_none x _ h k e (by rw [List.getElem?_take, if_pos h2]; exact he)
    · obtain rfl : k = q := by omega
      rw [hd] at he
      injection he with he
      rw [← he]
      exact hx
  · cases he
theorem idx_may (x : Int) (ds : List DefP) (hm : mayD ds) (q i : Nat) (d : DefP) (h : idxP x (ds.take q) = some i) (hd : ds[q]? = some d) : d.id ≠ x := by
  obtain ⟨e, h1, h2, _⟩ := idxP_some _ _ _ h
  rw [List.getElem?_take] at h1
  split at h1
  · rename_i hq
    exact fun h3 => (hm q d hd).2 i e hq h1 (by rw [h2, h3])
  · cases h1
theorem set2 {W : World} {B : Nat} {T : TypeId} {a b : Value} (h : Held W B T #[a, b]) (a' b' : Value) : Held ((W.setCell ⟨B, 0, none⟩ a').setCell ⟨B, 1, none⟩ b') B T #[a', b'] := by
  have h3 := (h.set 0 a').set 1 b'
  simpa using h3
theorem Kx.drewN {n₀ n₁ : Nat} {A B : World} (h : Kx n₀ n₁ A B) (m : Nat) : Kx n₀ n₁ A (B.drewN m) := ⟨below_drewN h.1 m, h.2⟩
/-- The slices among these cells lie below a block, or in blocks of values. -/
def CellsQ (W : World) (B0 : Nat) (cs : List Value) : Prop := ∀ A n c, Value.slice A n c ∈ cs → (∀ a, A = some a → a.block < B0) ∨ TyAt W 60 A
theorem CellsQ.same {W W' : World} {B0 : Nat} {cs : List Value} (h : CellsQ W B0 cs) (hk : SameAt W W' cs) : CellsQ W' B0 cs := fun A n c hm => (h A n c hm).elim .inl (fun h => .inr (h.same (hk A n c hm)))
theorem CellsQ.lt {W : World} {B0 : Nat} {cs : List Value} (h : CellsQ W B0 cs) (hB : B0 ≤ W.heap.size) : ∀ A n c, Value.slice A n c ∈ cs → ∀ a, A = some a → a.block < W.heap.size := by
  intro A n c hm a e
  rcases h A n c hm with h | h
  · exact Nat.lt_of_lt_of_le (h a e) hB
  · obtain ⟨x, hx⟩ := h a e
    exact (Array.getElem?_eq_some_iff.1 hx).1
theorem CellsQ.below {W W' : World} {B0 : Nat} {cs : List Value} (h : CellsQ W B0 cs) (hB : B0 ≤ W.heap.size) (hb : Below W.heap.size W W') : SameAt W W' cs := fun A n c hm a e => hb.block _ (h.lt hB A n c hm a e)
theorem CellsQ.kx {W W' : World} {B0 n₀ n₁ : Nat} {cs : List Value} (h : CellsQ W B0 cs) (hB : B0 ≤ W.heap.size) (h0 : W.heap.size ≤ n₀) (h1 : n₀ ≤ n₁) (hk : Kx n₀ n₁ W W') : SameAt W W' cs := fun A n c hm a e => by
  have h2 := h.lt hB A n c hm a e
  exact hk.2 _ (by omega) (by omega)
theorem CellsQ.grown {W W' : World} {B0 : Nat} {cs xs : List Value} {base size k : Nat} {T : TypeId} {v : Value} (h : CellsQ W B0 cs) (hB : B0 ≤ W.heap.size) (hr : W.ownsRow base T size v k xs) (h0 : B0 ≤ base) (h2 : T ≠ 60) (hg : W.grownBy W' v.ownBlock) : SameAt W W' cs := fun A n c hm a e => by
  refine hg.block _ (h.lt hB A n c hm a e) ?_
  rcases hr.2 with ⟨rfl, _⟩ | ⟨g, _, cur, rfl, h3, h4, _⟩
  · simp [Value.ownBlock]
  · intro h5
    have h6 : a.block = g := by simpa [Value.ownBlock] using h5
    rcases h A n c hm with h | h
    · have := h a e
      omega
    · obtain ⟨x, hx⟩ := h a e
      rw [h6, h4] at hx
      injection hx with hx
      injection hx with _ hx
      exact h2 hx
/-- What stands in the box of the definition. -/
def DefC (w : World) (ds : List DefP) (x : Int) (gd : Nat) (q : Nat) (W : World) : Prop :=
  (idxP x (ds.take q) = none ∧ Held W gd 33 #[.int .i64 0, .slice none 0 0]) ∨ (∃ i id ps Ap np cp, idxP x (ds.take q) = some i ∧ ds[i]? = some ⟨id, ps⟩ ∧ PtI w w.heap.size Ap np cp ps ∧ Held W gd 33 #[.int .i64 id, .slice Ap np cp])
theorem DefC.drewN {w : World} {ds : List DefP} {x : Int} {gd q : Nat} {W : World} (h : DefC w ds x gd q W) (m : Nat) : DefC w ds x gd q (W.drewN m) := h
set_option maxHeartbeats 8000000 in
theorem rread_any (A : Option Addr) (n c : Nat) (l : List Int) (A' : Option Addr) (n' c' : Nat) (ds : List DefP) (w : World) (hS : SlI w w.heap.size .u16 A n c l) (hx : ∀ x ∈ l, 0 ≤ x ∧ x < 65536) (hn : n ≤ 10000) (hD : DfI w w.heap.size A' n' c' ds) :
    Calls Try.prog 22 #[.slice A n c, .slice A' n' c'] w (RdPost w (readP ds l)) := by
  obtain ⟨i0, hi, hz0, hz1, hz2⟩ := info_parts infoBlk'
  obtain ⟨j0, hj, hy0, hy1, hy2⟩ := info_parts infoVal
  have hl := hS.1
  have hnc := hS.2.1
  have hm := hD.2.1
  have hm' := hD.2.2.1
  unfold maxLen at hm'
  have HS := Lib.hid (fun (X : World) (h : Below w.heap.size w X) => hS.up h)
  have HD := Lib.hid (fun (X : World) (h : Below w.heap.size w X) => hD.up h)
  have HL := Lib.hid hl
  have HX := Lib.hid hx
  have hdl := hD.1
  have HDL := Lib.hid hdl
  have HD0 := Lib.hid hD
  obtain ⟨O, hO⟩ : ∃ O, readP ds l = O := ⟨_, rfl⟩
  have HO := Lib.hid hO
  rw [hO]
  clear hS hD hl hx hO hdl
  go_in
  go_wp2
  go_loopw [6] (fun s6 wx => ∃ (j : Nat), j ≤ n' ∧ s6 = .int .i64 j ∧ (∀ (i : Nat) (e : DefP), i < j → ds[i]? = some e → defB e.id e.pts = true ∧ ∀ (k : Nat) (x : DefP), k < i → ds[k]? = some x → x.id ≠ e.id) ∧ Below w.heap.size w wx) (fun s6 _ => n' - (intOf s6).toNat)
  case atStart => exact ⟨0, Nat.zero_le _, rfl, fun k e hk => absurd hk (by omega), Below.refl _ _⟩
  case round =>
    obtain ⟨j, hj2, rfl, hno, hbr⟩ := hrel
    have HNO := Lib.hid hno
    clear hno
    by_cases hlt : j < n'
    case pos =>
      obtain ⟨⟨id, ps⟩, hd⟩ : ∃ d, ds[j]? = some d := ⟨_, List.getElem?_eq_getElem (by rw [HDL.out]; exact hlt)⟩
      obtain ⟨g, off, rfl, hg, hc⟩ := HD0.out.2.2.2.2 (by omega)
      have HIDS : Hid (∀ (X : World), Below w.heap.size w X → ∀ (k : Nat) (d : DefP), ds[k]? = some d → X.cell? ⟨g, off + k * 2, none⟩ = some (.int .i64 d.id)) := Lib.hid (fun X h k d hk => by
        obtain ⟨_, _, _, k0, _⟩ := hc k d hk
        exact (h.cell (p := ⟨g, off + k * 2, none⟩) hg).trans k0)
      obtain ⟨Ap, np, cp, c0, c1, hP⟩ := hc j _ hd
      dsimp only at c0 hP
      have hltI : (j : Int) < (n' : Int) := by omega
      have q0 : wr.cell? ⟨g, off + j * 2, none⟩ = some (.int .i64 id) := (hbr.cell (p := ⟨g, off + j * 2, none⟩) hg).trans c0
      have q1 : wr.cell? ⟨g, off + j * 2 + 1, none⟩ = some (.slice Ap np cp) := (hbr.cell (p := ⟨g, off + j * 2 + 1, none⟩) hg).trans c1
      have HRL := Lib.hid (rlen_any id Ap np cp ps wr (hP.up hbr))
      have HDJ := Lib.hid hd
      have hsm := sumP_in ps
      obtain ⟨SM, hSM⟩ : ∃ S, sumP ps = S := ⟨_, rfl⟩
      rw [hSM] at HRL hsm
      clear hc hd c0 c1 hP hSM
      cases hdf : defB id ps with
      | false =>
        rw [hdf] at HRL
        simp only [Bool.false_eq_true, if_false] at HRL
        have h : O = none := HO.out.symm.trans (readP_no ds l (fun h => by have := (h.1 j _ HDJ.out).1; rw [hdf] at this; cases this))
        subst h
        clear hdf hsm
        go_wp2_with fail
        refine HRL.out.mono ?_
        rintro e w2 ⟨rfl, hb2⟩
        go_wp2_with fail
        go_ret2
        exact rdpost_none rfl (hbr.trans (hb2.mono hbr.size))
      | true =>
        rw [hdf] at HRL
        simp only [if_true] at HRL
        have hS0 : ¬ SM < 0 := by
          have h := hdf
          unfold defB at h
          rw [Bool.and_eq_true] at h
          have := (hsm h.2).1
          omega
        have HDF := Lib.hid hdf
        clear hdf hsm
        go_wp2_with fail
        refine HRL.out.mono ?_
        rintro e w2 ⟨rfl, hb2⟩
        have hb2w := hbr.trans (hb2.mono hbr.size)
        clear q0 q1
        go_wp2_with fail
        go_loopw [7] (fun s7 wx => ∃ (q : Nat), q ≤ j ∧ s7 = .int .i64 q ∧ (∀ (k : Nat) (x : DefP), k < q → ds[k]? = some x → x.id ≠ id) ∧ Below w.heap.size w wx) (fun s7 _ => j - (intOf s7).toNat)
        case atStart => exact ⟨0, Nat.zero_le _, rfl, fun k e hk => absurd hk (by omega), hb2w⟩
        case round =>
          obtain ⟨q, hq, rfl, hqn, hbq⟩ := hrel
          have HQN := Lib.hid hqn
          clear hqn
          by_cases hqt : q < j
          · obtain ⟨⟨id2, ps2⟩, hd2⟩ : ∃ d, ds[q]? = some d := ⟨_, List.getElem?_eq_getElem (by rw [HDL.out]; omega)⟩
            have q0 := HIDS.out wr hbq q _ hd2
            have q1 := HIDS.out wr hbq j _ HDJ.out
            dsimp only at q0 q1
            have HD2 := Lib.hid hd2
            have hqI : (q : Int) < (j : Int) := by omega
            have hqn' : q < n' := by omega
            clear hd2
            by_cases he : id2 = id
            · have t1 : (id2 == id) = true := by simpa using he
              have h : O = none := HO.out.symm.trans (readP_no ds l (fun h => (h.1 j _ HDJ.out).2 q _ hqt HD2.out he))
              subst h
              clear he
              go_wp2_with fail
              go_quiet (fail)
              go_wp2_with fail
              go_ret2
              exact rdpost_none rfl (below_drewN hbq _)
            · have t1 : (id2 == id) = false := by simpa using he
              have HE := Lib.hid he
              clear he
              go_wp2_with fail
              go_quiet (fail)
              go_wp2_with fail
              go_roundw
              case rel => exact ⟨q + 1, by omega, by go_num, fun k x hk hx => by
                rcases Nat.lt_or_ge k q with h | h
                · exact HQN.out k x h hx
                · obtain rfl : k = q := by omega
                  rw [HD2.out] at hx
                  injection hx with hx
                  rw [← hx]
                  exact HE.out, below_drewN hbq _⟩
              case measure => simp [intOf]; omega
          · obtain rfl : q = j := by omega
            go_wp2_with fail
            go_roundw
            case rel => exact ⟨q + 1, by omega, by go_num, fun i e hi he => by
              rcases Nat.lt_or_ge i q with h | h
              · exact HNO.out i e h he
              · obtain rfl : i = q := by omega
                rw [HDJ.out] at he
                injection he with he
                rw [← he]
                exact ⟨HDF.out, HQN.out⟩, hbq⟩
            case measure => simp [intOf]; omega
    obtain rfl : j = n' := by omega
    have hmay : mayD ds := fun i d hd => HNO.out i d (by rw [← HDL.out]; exact (List.getElem?_eq_some_iff.1 hd).1) hd
    have HMAY := Lib.hid hmay
    have hown0 : wr.ownsRow w.heap.size 36 3 (.slice none 0 0) 0 [] := World.ownsRow_nil _ _ _ _
    clear hmay
    go_wp2_with fail
    go_loopw [8, 9] (fun s8 s9 wx => ∃ (f a k : Nat) (cs : List Value) (bo : List BlkP), s9 = .int .i64 a ∧ wx.ownsRow w.heap.size 36 3 s8 k cs ∧ BkC wx wx.heap.size cs bo ∧ CellsQ wx w.heap.size cs ∧ rdL ds (l.length + 1) (l.drop 2) = (rdL ds f (l.drop a)).map (fun x => (bo ++ x.1, x.2)) ∧ (l.drop a).length < f ∧ 2 * k + 2 ≤ a ∧ a ≤ n + 2 ∧ Below w.heap.size w wx) (fun _ s9 _ => n + 2 - (intOf s9).toNat)
    case atStart => exact ⟨l.length + 1, 2, 0, [], [], rfl, hown0, rfl, (fun A n c h => by cases h), by cases rdL ds (l.length + 1) (l.drop 2) <;> rfl, by rw [List.length_drop]; omega, by omega, by omega, hbr⟩
    case round =>
      clear hown0 hbr
      obtain ⟨f, a, k, cs, bo, rfl, hrow, hbk, hct, hrd, hlf, hka, han, hbr⟩ := hrel
      obtain ⟨f', rfl⟩ : ∃ f', f = f' + 1 := ⟨f - 1, by omega⟩
      obtain ⟨Av, cv, hv, _, _⟩ := own_form hrow
      subst hv
      have HRD := Lib.hid hrd
      have HBK := Lib.hid hbk
      have HCT := Lib.hid hct
      have HROW := Lib.hid hrow
      rw [List.length_drop, HL.out] at hlf
      clear hrd hbk hct hrow
      have hwszr := hbr.size
      by_cases hc : a < n ∧ l.getD a 0 ≠ 65535
      case neg =>
        have hrest : (l.drop a).length < 2 ∨ (l.drop a).getD 0 0 = 65535 := by
          rw [List.length_drop, HL.out]
          by_cases h : a < n
          · refine Or.inr ?_
            have : l.getD a 0 = 65535 := Classical.byContradiction fun h2 => hc ⟨h, h2⟩
            rw [← this]
            simp [List.getD]
          · exact Or.inl (by omega)
        have hend : rdL ds (f' + 1) (l.drop a) = some ([], l.drop a) := by
          unfold rdL
          rw [if_neg (fun h => hrest.elim (fun h1 => by have := h.1; omega) h.2)]
        have htot : rdL ds (l.length + 1) (l.drop 2) = some (bo, l.drop a) := by rw [HRD.out, hend]; simp
        have HTOT := Lib.hid htot
        have hBK : BkI wr wr.heap.size Av k cv bo := by
          obtain ⟨A9, c9, h9, hs9⟩ := SlV.of_own (by omega) HROW.out
          injection h9 with h91 h92 h93
          subst h91 h93
          exact BkI.of_cells hs9 HBK.out
        have HBI := Lib.hid (fun (X : World) (h : Below wr.heap.size wr X) => hBK.up h)
        have HIM := Lib.hid (rimage_anyN Av k cv bo (by omega) wr hBK)
        obtain ⟨oi, hoi⟩ : ∃ o, imageP bo = o := ⟨_, rfl⟩
        rw [hoi] at HIM
        have HOI := Lib.hid hoi
        clear hend htot hBK hoi hrest
        have hway : n ≤ a ∨ (a < n ∧ ∃ g1 o1, A = some ⟨g1, o1, none⟩ ∧ wr.cell? ⟨g1, o1 + a, none⟩ = some (.int .u16 65535)) := by
          by_cases h2 : a < n
          · refine Or.inr ⟨h2, ?_⟩
            obtain ⟨g1, o1, x, rfl, _, hxx, hcc⟩ := (HS.out wr hbr).2.2.2.2.at_ (i := a) (by rw [HL.out]; omega)
            refine ⟨g1, o1, rfl, ?_⟩
            have h65 : l.getD a 0 = 65535 := Classical.byContradiction fun h => hc ⟨h2, h⟩
            have : l.getD a 0 = x := by simp [List.getD, hxx]
            rw [hcc, ← this, h65]
          · exact Or.inl (by omega)
        clear hc
        rcases hway with h2 | ⟨h2, g1, o1, rfl, hcell⟩
        all_goals
          first
            | have t2 : ¬ ((a : Int) < (n : Int)) := by omega
            | have t2 : (a : Int) < (n : Int) := by omega
          go_wp2_with fail
          refine HIM.out.mono ?_
          rintro e w5 ⟨A5, n5, c5, er, rfl, her, hs5, hb5, _⟩
          have HER := Lib.hid her
          have HS5 := Lib.hid hs5
          have hb5w := hbr.trans (hb5.mono hbr.size)
          clear her hs5
          cases oi with
          | none =>
            obtain rfl : er = 260 := HER.out
            have h : O = none := HO.out.symm.trans (readP_bad ds l _ HTOT.out (by rw [HOI.out]; simp))
            subst h
            go_wp2_with fail
            go_ret2
            exact rdpost_none rfl hb5w
          | some L =>
            obtain rfl : er = 0 := HER.out
            have HEQ := Lib.hid (same_sl A5 _ n5 n c5 c L l w5 (HS5.out L rfl) (HS.out w5 hb5w))
            obtain ⟨q, hq⟩ : ∃ q, decide (L = l) = q := ⟨_, rfl⟩
            rw [hq] at HEQ
            have HQ := Lib.hid hq
            clear hq
            go_wp2_with fail
            refine HEQ.out.mono ?_
            rintro e w6 ⟨rfl, m6, hw6⟩
            have hb6 : Below wr.heap.size wr w6 := by rw [hw6]; exact below_drewN hb5 _
            have hb6w := hbr.trans (hb6.mono hbr.size)
            clear hw6
            cases q with
            | false =>
              have h : O = none := HO.out.symm.trans (readP_bad ds l _ HTOT.out (by rw [HOI.out]; intro h; injection h with h; exact of_decide_eq_false HQ.out h))
              subst h
              go_wp2_with fail
              go_ret2
              exact rdpost_none rfl hb6w
            | true =>
              have hLl := of_decide_eq_true HQ.out
              have h9 := image_some bo L HOI.out
              have h : O = some bo := HO.out.symm.trans (readP_yes ds l _ HMAY.out (by obtain ⟨y, _, h3, _⟩ := h9; rw [← hLl, h3]; simp) HTOT.out (by rw [HOI.out, hLl]))
              subst h
              clear hLl h9
              go_wp2_with fail
              go_ret2
              exact rdpost_some rfl hb6w (HBI.out w6 hb6)
      obtain ⟨hal, hx0⟩ := hc
      obtain ⟨g1, o1, rfl, hg1⟩ := (HS.out w (Below.refl _ _)).some_ (by omega)
      obtain ⟨x0, hxx⟩ : ∃ x, l[a]? = some x := ⟨_, List.getElem?_eq_getElem (by rw [HL.out]; exact hal)⟩
      have HLA : Hid (∀ (X : World), Below w.heap.size w X → X.cell? ⟨g1, o1 + a, none⟩ = some (.int .u16 x0)) := Lib.hid (fun X h => (HS.out X h).cell_at hxx)
      have hgx : l.getD a 0 = x0 := by simp [List.getD, hxx]
      rw [hgx] at hx0
      have hx16 := HX.out x0 (List.mem_of_getElem? hxx)
      have hwx : IntKind.i64.wrap x0 = x0 := IntWalk.i64_in _ (by omega)
      have t2 : (a : Int) < (n : Int) := by omega
      have t4 : (x0 != 65535) = true := by simpa using hx0
      have hcell := HLA.out wr hbr
      have hld : (l.drop a).getD 0 0 = x0 := by rw [← hgx]; simp [List.getD]
      have hstep : 2 ≤ (l.drop a).length → rdL ds (f' + 1) (l.drop a) = (match idxP x0 ds with
        | none => none
        | some i => if (l.drop a).length < 2 + sumT (ds.getD i ⟨0, []⟩).pts then none else
          match rdL ds f' ((l.drop a).drop (2 + sumT (ds.getD i ⟨0, []⟩).pts)) with
          | none => none
          | some x => some (blkR (ds.getD i ⟨0, []⟩) ((l.drop a).drop 2) :: x.1, x.2)) := fun h2 => by
        rw [rdL, if_pos ⟨h2, by rw [hld]; exact hx0⟩, hld]
        first | rfl | (cases idxP x0 ds <;> rfl)
      have hone : (l.drop a).length < 2 → O = none := fun h2 => by
        rw [← HO.out]
        have hend : rdL ds (f' + 1) (l.drop a) = some ([], l.drop a) := by
          unfold rdL
          rw [if_neg (fun h => by have := h.1; omega)]
        have htot : rdL ds (l.length + 1) (l.drop 2) = some (bo, l.drop a) := by rw [HRD.out, hend]; simp
        refine readP_bad ds l _ htot (fun h => ?_)
        have h3 := rdL_rest ds HMAY.out _ l _ htot (by rw [HL.out]; omega) h
        dsimp only at h3
        omega
      have HST := Lib.hid hstep
      have HONE := Lib.hid hone
      clear hstep hxx hgx hx0 hld hone
      obtain ⟨gd, hgd⟩ : ∃ g, wr.heap.size = g := ⟨_, rfl⟩
      obtain ⟨w2, hw2⟩ : ∃ W, wr.alloc (.cells #[.int .i64 0, .slice none 0 0] 33) = W := ⟨_, rfl⟩
      have hb2 : Below wr.heap.size wr w2 := by rw [← hw2]; exact (Below.refl _ _).alloc (Nat.le_refl _) _
      have hK2 : Held w2 gd 33 #[.int .i64 0, .slice none 0 0] := by rw [← hw2, ← hgd]; exact Held.new _ _ _
      have hb2w := hbr.trans (hb2.mono hbr.size)
      have hgdw : w.heap.size ≤ gd := by rw [← hgd]; exact hbr.size
      obtain ⟨b2, hb2s⟩ : ∃ b, w2.heap.size = b := ⟨_, rfl⟩
      have hgdb : gd < b2 := by rw [← hb2s]; exact hK2.lt
      have HB2S := Lib.hid hb2s
      -- the out row behind the alloc
      have HROW2 := Lib.hid (mown_up HROW.out hb2)
      have HBK2 := Lib.hid (HBK.out.up hb2)
      have hsame2 := HCT.out.below hwszr hb2
      have HCT2 := Lib.hid (HCT.out.same hsame2)
      have HLT2 : Hid (∀ A n c, Value.slice A n c ∈ cs → ∀ a, A = some a → a.block < gd) := Lib.hid (fun A n c hm a e => by have := HCT.out.lt hwszr A n c hm a e; omega)
      have hrlt : ∀ g, (Value.slice Av k cv).ownBlock = some g → g < gd := fun g hg => by rw [← hgd]; exact (HROW.out.lt g hg).2
      have HRLT := Lib.hid hrlt
      have HW2 := Lib.hid hw2
      have HGD := Lib.hid hgd
      clear hb2s hsame2 hrlt hw2 hgd
      go_upto_region 15 with (fail)
      rw [HW2.out, HGD.out]
      clear HW2 HROW HBK HCT
      go_wp2_with fail
      go_loopw [11] (fun s11 wx => ∃ (q : Nat), q ≤ j ∧ s11 = .int .i64 q ∧ DefC w ds x0 gd q wx ∧ Kx gd b2 w2 wx) (fun s11 _ => j - (intOf s11).toNat)
      case atStart => exact ⟨0, Nat.zero_le _, rfl, Or.inl ⟨by rw [List.take_zero]; rfl, hK2⟩, Kx.refl _ _ _⟩
      case round =>
        clear hcell hK2
        obtain ⟨q, hq, rfl, hdc, hk⟩ := hrel
        have hbk : Below w.heap.size w wr := hb2w.trans (hk.1.mono hgdw)
        have hcell := HLA.out wr hbk
        by_cases hqt : q < j
        case pos =>
          obtain ⟨⟨id2, ps2⟩, hd2⟩ : ∃ d, ds[q]? = some d := ⟨_, List.getElem?_eq_getElem (by rw [HDL.out]; exact hqt)⟩
          obtain ⟨gD, oD, rfl, hgD, hcD⟩ := HD0.out.2.2.2.2 (by omega)
          obtain ⟨Ap, np, cp, c0, c1, hP⟩ := hcD q _ hd2
          dsimp only at c0 hP
          have hqI : (q : Int) < (j : Int) := by omega
          have HD2 := Lib.hid hd2
          have HPW := Lib.hid hP
          have hna : a < n := hal
          have HDC := Lib.hid hdc
          have HC : Hid (∀ (X : World), Below w.heap.size w X → X.cell? ⟨gD, oD + q * 2, none⟩ = some (.int .i64 id2) ∧ X.cell? ⟨gD, oD + q * 2 + 1, none⟩ = some (.slice Ap np cp)) := Lib.hid (fun X h => ⟨(h.cell (p := ⟨gD, oD + q * 2, none⟩) hgD).trans c0, (h.cell (p := ⟨gD, oD + q * 2 + 1, none⟩) hgD).trans c1⟩)
          obtain ⟨q0, q1⟩ := HC.out wr hbk
          clear hcD hd2 hP hdc c0 c1
          by_cases he : id2 = x0
          · have t1 : (id2 == x0) = true := by simpa using he
            have hKd : idxP x0 (ds.take q) = none ∧ Held wr gd 33 #[.int .i64 0, .slice none 0 0] := by
              rcases HDC.out with h | ⟨i, id, ps, Ap, np, cp, h, _⟩
              · exact h
              · exact (idx_may x0 ds HMAY.out q i _ h HD2.out he).elim
            have HE := Lib.hid he
            have HKD := Lib.hid hKd
            clear he hKd
            go_wp2_with fail
            go_quiet (fail)
            obtain ⟨wq, hwq⟩ : ∃ W, wr.drewN nq = W := ⟨_, rfl⟩
            have hbq : Below w.heap.size w wq := by rw [← hwq]; exact below_drewN hbk _
            have hkq : Kx gd b2 w2 wq := by rw [← hwq]; exact hk.drewN _
            have hKq : Held wq gd 33 #[.int .i64 0, .slice none 0 0] := by rw [← hwq]; exact HKD.out.2
            rw [hwq]
            clear hwq q0 q1 hcell
            obtain ⟨q0, q1⟩ := HC.out wq hbq
            have k0 := hKq.cell 0
            have k1 := hKq.cell 1
            have hff := hKq.frozen
            have hN := set2 hKq (.int .i64 id2) (.slice Ap np cp)
            go_wp2_with fail
            go_roundw
            case rel => exact ⟨q + 1, by omega, by go_num, Or.inr ⟨q, id2, ps2, Ap, np, cp, idx_new x0 ds q _ HKD.out.1 HD2.out HE.out, HD2.out, HPW.out, hN⟩, (hkq.set 0 _).set 1 _⟩
            case measure => simp [intOf]; omega
          · have t1 : (id2 == x0) = false := by simpa using he
            have HE := Lib.hid he
            clear he
            go_wp2_with fail
            go_quiet (fail)
            go_wp2_with fail
            go_roundw
            case rel => exact ⟨q + 1, by omega, by go_num, by
              rcases HDC.out with ⟨h, h2⟩ | ⟨i, id, ps, Ap, np, cp, h, h2, h3, h4⟩
              · exact Or.inl ⟨idx_not x0 ds q _ h HD2.out HE.out, h2⟩
              · exact Or.inr ⟨i, id, ps, Ap, np, cp, idx_keep x0 ds q i h, h2, h3, h4⟩, hk.drewN _⟩
            case measure => simp [intOf]; omega
        obtain rfl : q = j := by omega
        have htk : ds.take q = ds := List.take_of_length_le (by rw [HDL.out]; exact Nat.le_refl _)
        unfold DefC at hdc
        rw [htk] at hdc
        have HKX := Lib.hid hk
        have hszr : b2 ≤ wr.heap.size := by rw [← HB2S.out]; exact hk.1.size
        clear htk
        rcases hdc with ⟨hix, hKd⟩ | ⟨i, id, ps, Ap, np, cp, hix, hd, hP, hKd⟩
        · have h : O = none := by
            by_cases h2 : (l.drop a).length < 2
            · exact HONE.out h2
            · exact HO.out.symm.trans (readP_nil ds l (by rw [HRD.out, HST.out (by omega), hix]; rfl))
          subst h
          have k0 := hKd.cell 0
          have k1 := hKd.cell 1
          have hr := rlen_any 0 none 0 0 [] wr ⟨rfl, by omega, by simp [maxLen], fun _ => ⟨rfl, rfl⟩, fun h => absurd h (by omega)⟩
          rw [show defB 0 [] = false from rfl] at hr
          simp only [Bool.false_eq_true, if_false] at hr
          have HR := Lib.hid hr
          clear hr hix
          go_wp2_with fail
          refine HR.out.mono ?_
          rintro e w4 ⟨rfl, hb4⟩
          go_wp2_with fail
          go_ret2
          exact rdpost_none rfl (hbk.trans (hb4.mono hbk.size))
        have hdef := (HMAY.out i _ hd).1
        dsimp only at hdef
        have hall : ps.all ptB = true := by unfold defB at hdef; rw [Bool.and_eq_true] at hdef; exact hdef.2
        have hnp : 1 ≤ np ∧ np ≤ 50 := by
          unfold defB at hdef
          rw [Bool.and_eq_true] at hdef
          have := of_decide_eq_true hdef.1
          rw [hP.1] at this
          omega
        have hr := rlen_any id Ap np cp ps wr (hP.up hbk)
        rw [hdef, ← sumT_eq ps hall] at hr
        simp only [if_true] at hr
        have hsm := sumP_in ps hall
        rw [← sumT_eq ps hall, hP.1] at hsm
        have hTp := sumT_pos ps hall
        rw [hP.1] at hTp
        have hgd2 : ds.getD i ⟨0, []⟩ = ⟨id, ps⟩ := by simp [List.getD, hd]
        obtain ⟨T, hT⟩ : ∃ T, sumT ps = T := ⟨_, rfl⟩
        have hst2 : 2 ≤ (l.drop a).length → rdL ds (f' + 1) (l.drop a) = (if (l.drop a).length < 2 + T then none else
          match rdL ds f' ((l.drop a).drop (2 + T)) with
          | none => none
          | some x => some (blkR ⟨id, ps⟩ ((l.drop a).drop 2) :: x.1, x.2)) := fun h => by
          rw [HST.out h, hix]
          dsimp only
          rw [hgd2, hT]
        rw [hT] at hr hsm hTp
        have HR := Lib.hid hr
        have HST2 := Lib.hid hst2
        have HT := Lib.hid hT
        have HALL := Lib.hid hall
        have HPW := Lib.hid hP
        have hpl := hP.1
        have HPL := Lib.hid hpl
        have HKD := Lib.hid hKd
        have k0 := hKd.cell 0
        have k1 := hKd.cell 1
        have HRIN := Lib.hid (rdVs_in ps (l.drop (a + 2)) (fun x hx => HX.out x (List.mem_of_mem_drop hx)))
        have hT0 : ¬ (T : Int) < 0 := by omega
        have hT1 : T ≤ 6250 := by omega
        clear hr hst2 hT hall hP hix hgd2 hdef hsm hpl
        go_wp2_with fail
        refine HR.out.mono ?_
        rintro e w4 ⟨rfl, hb4⟩
        have hb4w := hbk.trans (hb4.mono hbk.size)
        have hw1 : IntKind.i64.wrap ((a : Int) + 2) = (a : Int) + 2 := IntWalk.i64_in _ (by omega)
        have hw2 : IntKind.i64.wrap ((a : Int) + 2 + (T : Int)) = (a : Int) + 2 + (T : Int) := IntWalk.i64_in _ (by omega)
        by_cases hsh : n < a + 2 + T
        case pos =>
          have h : O = none := by
            by_cases h2 : (l.drop a).length < 2
            · exact HONE.out h2
            · exact HO.out.symm.trans (readP_nil ds l (by rw [HRD.out, HST2.out (by omega), if_pos (by rw [List.length_drop, HL.out]; omega)]; rfl))
          subst h
          have t5 : (a : Int) + 2 + (T : Int) > (n : Int) := by omega
          go_wp2_with fail
          go_ret2
          exact rdpost_none rfl hb4w
        have t5 : ¬ (a : Int) + 2 + (T : Int) > (n : Int) := by omega
        have hKd4 := HKD.out.below hb4 (by omega)
        have d0 := hKd4.cell 0
        have d1 := hKd4.cell 1
        obtain ⟨gB, hgB⟩ : ∃ g, w4.heap.size = g := ⟨_, rfl⟩
        obtain ⟨w5, hw5⟩ : ∃ W, w4.alloc (.cells #[.int .i64 id, .slice Ap np cp, .slice none 0 0] 36) = W := ⟨_, rfl⟩
        have hb5 : Below w4.heap.size w4 w5 := by rw [← hw5]; exact (Below.refl _ _).alloc (Nat.le_refl _) _
        have hB5 : Held w5 gB 36 #[.int .i64 id, .slice Ap np cp, .slice none 0 0] := by rw [← hw5, ← hgB]; exact Held.new _ _ _
        have hK5 := hKd4.below hb5 (by have := hb4.size; omega)
        have hb5w := hb4w.trans (hb5.mono hb4w.size)
        have hgdB : gd < gB := by have := hb4.size; omega
        have hbgB : b2 ≤ gB := by have := hb4.size; omega
        obtain ⟨b5, hb5s⟩ : ∃ b, w5.heap.size = b := ⟨_, rfl⟩
        have hgBb : gB < b5 := by rw [← hb5s]; exact hB5.lt
        have hkx5 : Kx gd b2 w2 w5 := HKX.out.trans (Kx.of_below (((hb4.trans (hb5.mono hb4.size))).mono hszr) (Nat.le_of_lt hgdb))
        have HKX5 := Lib.hid hkx5
        have HB5S := Lib.hid hb5s
        have hown5 : w5.ownsRow b5 60 3 (.slice none 0 0) 0 (valC []) := World.ownsRow_nil _ _ _ _
        have HW5 := Lib.hid hw5
        have HGB := Lib.hid hgB
        have hgBw : w.heap.size ≤ gB := by have := hb4w.size; omega
        clear hw5 hgB hb5s hkx5 k0 k1 hcell
        go_upto_region 24 with (fail)
        rw [HW5.out, HGB.out]
        clear HW5 d0 d1
        go_wp2_with fail
        go_loopw [9, 14] (fun s9 s14 wx => ∃ (y : Nat) (v : Value), y ≤ np ∧ s14 = .int .i64 y ∧ s9 = .int .i64 ((a + 2 + sumT (ps.take y) : Nat) : Int) ∧ Held wx gB 36 #[.int .i64 id, .slice Ap np cp, v] ∧ wx.ownsRow b5 60 3 v y (valC (rdVs (ps.take y) (l.drop (a + 2)))) ∧ Kx gB b5 w5 wx) (fun _ s14 _ => np - (intOf s14).toNat)
        case atStart => exact ⟨0, .slice none 0 0, Nat.zero_le _, rfl, by simp [sumT], hB5, hown5, Kx.refl _ _ _⟩
        case round =>
          clear hB5 hown5
          obtain ⟨y, v, hy, rfl, rfl, hH, hrow, hky⟩ := hrel
          have hby : Below w.heap.size w wr := hb5w.trans (hky.1.mono hgBw)
          have hb5r : b5 ≤ wr.heap.size := by rw [← HB5S.out]; exact hky.1.size
          have hKd : Held wr gd 33 #[.int .i64 id, .slice Ap np cp] := (hky.2 gd (by omega) (by omega)).trans hK5
          have d1 := hKd.cell 1
          have b0c := hH.cell 0
          have b1c := hH.cell 1
          have b2c := hH.cell 2
          have HROWY := Lib.hid hrow
          by_cases hyt : y < np
          case pos =>
            clear b0c b1c b2c
            obtain ⟨⟨kk, m⟩, hp⟩ : ∃ p, ps[y]? = some p := ⟨_, List.getElem?_eq_getElem (by rw [HPL.out]; exact hyt)⟩
            obtain ⟨gp, op, rfl, hgp, hcp⟩ := HPW.out.2.2.2.2 (by omega)
            obtain ⟨c0, c1⟩ := hcp y _ hp
            dsimp only at c0 c1
            have hpb : ptB ⟨kk, m⟩ = true := List.all_eq_true.1 HALL.out _ (List.mem_of_getElem? hp)
            have hmm := ptB_in hpb
            dsimp only at hmm
            have hst := sumT_next ps y _ hp
            have hst3 := sumT_take ps (y + 1)
            have hrn := rdVs_next ps y _ (l.drop (a + 2)) hp
            dsimp only at hst hrn
            obtain ⟨q, rfl⟩ := Int.eq_ofNat_of_zero_le (show 0 ≤ m by omega)
            rw [Int.toNat_natCast] at hst hrn
            rw [HT.out] at hst3
            obtain ⟨T1, hT1⟩ : ∃ T, sumT (ps.take y) = T := ⟨_, rfl⟩
            rw [hT1] at hst hrn ⊢
            obtain ⟨t, ht⟩ : ∃ t, a + 2 + T1 = t := ⟨_, rfl⟩
            rw [List.drop_drop, ht] at hrn
            rw [ht]
            obtain ⟨te, hte⟩ : ∃ e, t + q = e := ⟨_, rfl⟩
            have hten : te ≤ n := by omega
            have htq : te - t = q := by omega
            have htn : t < n := by omega
            have htec : te ≤ c := by omega
            have htte : t ≤ te := by omega
            have hqp : 1 ≤ q := by omega
            have hq125 : q ≤ 125 := by omega
            have hct : ¬ c = t := by omega
            have htc : t ≤ c := by omega
            have hwt : IntKind.i64.wrap ((t : Int) + (q : Int)) = (te : Int) := by rw [← hte]; push_cast; exact IntWalk.i64_in _ (by omega)
            have hSLT : ∀ (X : World), Below w.heap.size w X → SlI X X.heap.size .u16 (some ⟨g1, o1 + t, none⟩) q (c - t) ((l.drop t).take q) := fun X h => ((HS.out X h).drop t (by omega)).take q (by omega)
            have HCV := Lib.hid (fun (X : World) (h : Below w.heap.size w X) => rvalue_any kk (q : Int) hpb (some ⟨g1, o1 + t, none⟩) q (c - t) ((l.drop t).take q) (by omega) (fun x hx => HX.out x (List.mem_of_mem_drop (List.mem_of_mem_take hx))) X (hSLT X h))
            obtain ⟨⟨vu, vi, vs⟩, hvv⟩ : ∃ v, rdV ⟨kk, (q : Int)⟩ ((l.drop t).take q) = v := ⟨_, rfl⟩
            rw [hvv] at HCV hrn
            unfold valV at HCV
            dsimp only at HCV
            have HSTN := Lib.hid hst
            have HRN := Lib.hid hrn
            have HTT := Lib.hid (And.intro hT1 (And.intro ht hte))
            have HPC : Hid (∀ (X : World), Below w.heap.size w X → X.cell? ⟨gp, op + y * 2, none⟩ = some (.int .i64 kk) ∧ X.cell? ⟨gp, op + y * 2 + 1, none⟩ = some (.int .i64 (q : Int))) := Lib.hid (fun X h => ⟨(h.cell (p := ⟨gp, op + y * 2, none⟩) hgp).trans c0, (h.cell (p := ⟨gp, op + y * 2 + 1, none⟩) hgp).trans c1⟩)
            obtain ⟨e0, e1⟩ := HPC.out wr hby
            have HKY := Lib.hid hky
            have HROW := Lib.hid (fun (X : World) (h : Below wr.heap.size wr X) => mown_up hrow h)
            have HBR := Lib.hid hb5r
            have HBY := Lib.hid hby
            have hyI : (y : Int) < (np : Int) := by omega
            have hKA : y + 1 ≤ maxLen ∧ (y + 1) * 32 ≤ 140737488355328 := by unfold maxLen; omega
            have HKA := Lib.hid hKA
            have hgdr : gd < wr.heap.size := by omega
            have hgBr : gB < wr.heap.size := by omega
            have hnec : gd ≠ gB := by omega
            clear hcp hp hst hrn hvv hst3 hT1 ht hte hpb c0 c1 hSLT hKA
            go_upto_region 29 with (fail)
            obtain ⟨wd29, hwd29⟩ : ∃ W : World, wr.drew = W := ⟨_, rfl⟩
            have hB : Below wr.heap.size wr wd29 := by rw [← hwd29]; exact (Below.refl _ _).drew
            have hG : Held wd29 gB 36 #[.int .i64 id, .slice (some ⟨gp, op, none⟩) np cp, v] := by rw [← hwd29]; exact hH
            have hS : Held wd29 gd 33 #[.int .i64 id, .slice (some ⟨gp, op, none⟩) np cp] ∧ Below w.heap.size w wd29 := by rw [← hwd29]; exact ⟨hKd, HBY.out.drew⟩
            refine wp_region_held (S := (fun X => Held X gd 33 #[.int .i64 id, .slice (some ⟨gp, op, none⟩) np cp] ∧ Below w.heap.size w X)) (by kernel_rfl) ?_
            change wpAnyH _ _ _ _ _ _ _ _ wr.drew
            rw [hwd29]
            clear hwd29
            refine wpAnyH_take (i := 0) (v := ?v0_1) rfl (by kernel_rfl) (by kernel_rfl) (by kernel_rfl) (fun _ _ _ h => h) (Or.inl ⟨by rfl, ?y0_1⟩) hS ?r0_1
            case y0_1 =>
              rintro W hH
              go_simp
              with_reducible rfl
            simp only [Act.put]
            try simp only [List.getElem_toArray, List.getElem_cons_zero]
            refine wpAnyH_take (i := 2) (v := ?v2_2) rfl (by kernel_rfl) (by kernel_rfl) (by kernel_rfl) (fun _ _ _ h => h) (Or.inl ⟨by rfl, ?y2_2⟩) hS ?r2_2
            case y2_2 =>
              rintro W hH
              go_simp
              with_reducible rfl
            simp only [Act.put]
            try simp only [List.getElem_toArray, List.getElem_cons_succ, List.getElem_cons_zero]
            refine wpAnyH_take (i := 3) (v := ?v3_3) rfl (by kernel_rfl) (by kernel_rfl) (by kernel_rfl) (fun _ _ _ h => h) (Or.inl ⟨by rfl, ?y3_3⟩) hS ?r3_3
            case y3_3 =>
              rintro W hH
              have q1 := hH.1.cell 1
              obtain ⟨e0, e1⟩ := HPC.out W hH.2
              go_simp
              with_reducible rfl
            simp only [Act.put]
            try simp only [List.getElem_toArray, List.getElem_cons_succ, List.getElem_cons_zero]
            refine wpAnyH_take (i := 4) (v := ?v4_4) rfl (by kernel_rfl) (by kernel_rfl) (by kernel_rfl) (fun _ _ _ h => h) (Or.inl ⟨by rfl, ?y4_4⟩) hS ?r4_4
            case y4_4 =>
              rintro W hH
              go_simp
              with_reducible rfl
            simp only [Act.put]
            try simp only [List.getElem_toArray, List.getElem_cons_succ, List.getElem_cons_zero]
            refine wpAnyH_take (i := 5) (v := ?v5_5) rfl (by kernel_rfl) (by kernel_rfl) (by kernel_rfl) (fun _ _ _ h => h) (Or.inl ⟨by rfl, ?y5_5⟩) hS ?r5_5
            case y5_5 =>
              rintro W hH
              go_simp
              with_reducible rfl
            simp only [Act.put]
            try simp only [List.getElem_toArray, List.getElem_cons_succ, List.getElem_cons_zero]
            refine wpAnyH_take (i := 6) (v := ?v6_6) rfl (by kernel_rfl) (by kernel_rfl) (by kernel_rfl) (fun _ _ _ h => h) (Or.inl ⟨by rfl, ?y6_6⟩) hS ?r6_6
            case y6_6 =>
              rintro W hH
              have q1 := hH.1.cell 1
              obtain ⟨e0, e1⟩ := HPC.out W hH.2
              go_simp
              with_reducible rfl
            simp only [Act.put]
            try simp only [List.getElem_toArray, List.getElem_cons_succ, List.getElem_cons_zero]
            refine wpAnyH_take (i := 7) (v := ?v7_7) rfl (by kernel_rfl) (by kernel_rfl) (by kernel_rfl) (fun _ _ _ h => h) (Or.inl ⟨by rfl, ?y7_7⟩) hS ?r7_7
            case y7_7 =>
              rintro W hH
              go_simp
              with_reducible rfl
            simp only [Act.put]
            try simp only [List.getElem_toArray, List.getElem_cons_succ, List.getElem_cons_zero]
            refine wpAnyH_take (i := 8) (v := ?v8_8) rfl (by kernel_rfl) (by kernel_rfl) (by kernel_rfl) (fun _ _ _ h => h) (Or.inl ⟨by rfl, ?y8_8⟩) hS ?r8_8
            case y8_8 =>
              rintro W hH
              go_simp
              with_reducible rfl
            simp only [Act.put]
            try simp only [List.getElem_toArray, List.getElem_cons_succ, List.getElem_cons_zero]
            refine wpAnyH_take (i := 9) (v := ?v9_9) rfl (by kernel_rfl) (by kernel_rfl) (by kernel_rfl) (fun _ _ _ h => h) (Or.inl ⟨by rfl, ?y9_9⟩) hS ?r9_9
            case y9_9 =>
              rintro W hH
              go_simp
              with_reducible rfl
            simp only [Act.put]
            try simp only [List.getElem_toArray, List.getElem_cons_succ, List.getElem_cons_zero]
            refine wpAnyH_take (i := 10) (v := ?v10_10) rfl (by kernel_rfl) (by kernel_rfl) (by kernel_rfl) (fun _ _ _ h => h) (Or.inl ⟨by rfl, ?y10_10⟩) hS ?r10_10
            case y10_10 =>
              rintro W hH
              go_simp
              with_reducible rfl
            simp only [Act.put]
            try simp only [List.getElem_toArray, List.getElem_cons_succ, List.getElem_cons_zero]
            refine wpAnyH_take (i := 11) (v := ?v11_11) rfl (by kernel_rfl) (by kernel_rfl) (by kernel_rfl) (fun _ _ _ h => h) (Or.inl ⟨by rfl, ?y11_11⟩) hS ?r11_11
            case y11_11 =>
              rintro W hH
              go_simp
              with_reducible rfl
            simp only [Act.put]
            try simp only [List.getElem_toArray, List.getElem_cons_succ, List.getElem_cons_zero]
            refine wpAnyH_take (i := 12) (v := ?v12_12) rfl (by kernel_rfl) (by kernel_rfl) (by kernel_rfl) (fun _ _ _ h => h) (Or.inl ⟨by rfl, ?y12_12⟩) hS ?r12_12
            case y12_12 =>
              rintro W hH
              go_simp
              with_reducible rfl
            simp only [Act.put]
            try simp only [List.getElem_toArray, List.getElem_cons_succ, List.getElem_cons_zero]
            refine wpAnyH_ready (rs := [1, 13]) (by kernel_rfl) (by simp) ?_
            refine AllReadyH.cons rfl (fun K' hK' => ?_) (AllReadyH.cons rfl (fun K' hK' => ?_) AllReadyH.nil)
            · skip
              have q2 := hG.cell 2
              go_simp
              refine hK'.out _ _ hS (fun hS => ?_)
              clear hK' K'
              refine wpAnyH_ready (rs := [13]) (by kernel_rfl) (by simp) ?_
              refine AllReadyH.cons rfl (fun K' hK' => ?_) AllReadyH.nil
              go_simp
              refine (HCV.out _ hS.2).mono ?_
              rintro e u2 ⟨rfl, hbv⟩
              have hB2 := hB.trans (hbv.mono hB.size)
              have hG := hG.below hbv hG.lt
              go_simp
              refine hK'.out _ _ ⟨hS.1.below hbv hS.1.lt, hS.2.trans (hbv.mono hS.2.size)⟩ (fun hS => ?_)
              clear hK' K'
              refine wpAnyH_ready (rs := [14]) (by kernel_rfl) (by simp) ?_
              refine AllReadyH.cons rfl (fun K' hK' => ?_) AllReadyH.nil
              go_simp
              obtain ⟨u3, hu3⟩ : ∃ W, u2.alloc (.cells #[.int .u64 vu, .int .i64 vi, .string vs] 60) = W := ⟨_, rfl⟩
              have hbl : Below u2.heap.size u2 u3 := by rw [← hu3]; exact (Below.refl _ _).alloc (Nat.le_refl _) _
              have hnew : ∀ j u, ([.int .u64 vu, .int .i64 vi, .string vs] : List Value)[j]? = some u → u3.cell? ((⟨u2.heap.size, 0, none⟩ : Addr).add j) = some u := by rw [← hu3]; exact World.news_of_block (cs := #[.int .u64 vu, .int .i64 vi, .string vs]) (t := 60) (fr := (0, 0)) (heap_alloc_new u2 _)
              have hB3 := hB2.trans (hbl.mono hB2.size)
              have hG := hG.below hbl hG.lt
              rw [hu3]
              clear hu3
              refine hK'.out _ _ ⟨hS.1.below hbl hS.1.lt, hS.2.trans (hbl.mono hS.2.size)⟩ (fun hS => ?_)
              clear hK' K'
              refine wpAnyH_ready (rs := [15]) (by kernel_rfl) (by simp) ?_
              refine AllReadyH.cons rfl (fun K' hK' => ?_) AllReadyH.nil
              have hrow3 := HROW.out u3 hB3
              have hz3 : b5 ≤ u3.heap.size := Nat.le_trans HBR.out hB3.size
              refine step_append_lies _ (by rfl) _ _ _ (by rfl) b5 60 j0 (.agg #[.int .u64 0, .int .i64 0, .string ⟨#[]⟩]) 3 32 Try.underlying34 hj hy0 hy1 hy2 rfl (by decide) v y _ (by rfl) hrow3 ⟨u2.heap.size, 0, none⟩ 1 1 [.int .u64 vu, .int .i64 vi, .string vs] (by rfl) (by rfl) hnew (by simp [Value.oneCell']) (by omega) HKA.out.1 HKA.out.2 hz3 _ rfl ?_
              intro gg cc u4 hown4 hgrow hat hlt4
              have hne4 := hG.not_row (by decide) hrow3
              have hnp4 := hS.1.not_row (by decide) hrow3
              have hk4 : Below b5 wr u4 := (hB3.mono HBR.out).grown hgrow hz3 (fun k hk => (hrow3.lt k hk).1)
              have hH4 := hG.kept hgrow hne4
              refine hK'.out _ _ ⟨hS.1.kept hgrow hnp4, hS.2.grown hgrow hS.2.size (fun k hk => by have h1 := (hrow3.lt k hk).1; omega)⟩ (fun hS => ?_)
              clear hK' K'
              refine wpAnyH_take (i := 16) (v := ?v16_13) rfl (by kernel_rfl) (by kernel_rfl) (by kernel_rfl) (fun _ _ _ h => h) (Or.inl ⟨by rfl, ?y16_13⟩) hS ?r16_13
              case y16_13 =>
                rintro W hH
                go_simp
                with_reducible rfl
              simp only [Act.put]
              try simp only [List.getElem_toArray, List.getElem_cons_succ, List.getElem_cons_zero]
              refine wpAnyH_ready (rs := [17]) (by kernel_rfl) (by simp) ?_
              refine AllReadyH.cons rfl (fun K' hK' => ?_) AllReadyH.nil
              have s2 := hH4.cell 2
              have hff := hH4.frozen
              go_simp
              refine hK'.out _ _ ⟨hS.1.far (by show gd ≠ gB; exact hnec) _, hS.2.setCell (p := ⟨gB, 2, none⟩) hgBw _⟩ (fun hS => ?_)
              clear hK' K'
              refine wpAnyH_done (by kernel_rfl) ?_ _
              obtain ⟨w7, hw7⟩ : ∃ W, u4.setCell ⟨gB, 2, none⟩ (.slice (some ⟨gg, 0, none⟩) (y + 1) cc) = W := ⟨_, rfl⟩
              have hk7 : Kx gB b5 w5 w7 := by rw [← hw7]; exact HKY.out.trans ((Kx.of_below hk4 (Nat.le_of_lt hgBb)).set 2 _)
              have hH7 : Held w7 gB 36 #[.int .i64 id, .slice (some ⟨gp, op, none⟩) np cp, .slice (some ⟨gg, 0, none⟩) (y + 1) cc] := by rw [← hw7]; have h := hH4.set 2 (.slice (some ⟨gg, 0, none⟩) (y + 1) cc); simpa using h
              have hO7 : w7.ownsRow b5 60 3 (.slice (some ⟨gg, 0, none⟩) (y + 1) cc) (y + 1) (valC (rdVs (ps.take y) (l.drop (a + 2))) ++ [.int .u64 vu, .int .i64 vi, .string vs]) := by rw [← hw7]; exact hown4.kept (grownBy_set (World.grownBy.refl _ _) (p := ⟨gB, 2, none⟩) rfl _) (.inr (hH4.not_row (by decide) hown4).symm)
              rw [hw7]
              clear hw7 hS
              go_wp2_with fail
              go_roundw
              case rel => exact ⟨y + 1, _, by omega, by go_num, by rw [HSTN.out, show a + 2 + (T1 + q) = te by have h := HTT.out; omega], hH7, by rw [HRN.out, valC_append]; exact hO7, hk7⟩
              case measure => simp [intOf]; omega
            · skip
              go_simp
              refine (HCV.out _ hS.2).mono ?_
              rintro e u2 ⟨rfl, hbv⟩
              have hB2 := hB.trans (hbv.mono hB.size)
              have hG := hG.below hbv hG.lt
              go_simp
              refine hK'.out _ _ ⟨hS.1.below hbv hS.1.lt, hS.2.trans (hbv.mono hS.2.size)⟩ (fun hS => ?_)
              clear hK' K'
              refine wpAnyH_ready (rs := [1, 14]) (by kernel_rfl) (by simp) ?_
              refine AllReadyH.cons rfl (fun K' hK' => ?_) (AllReadyH.cons rfl (fun K' hK' => ?_) AllReadyH.nil)
              · skip
                have q2 := hG.cell 2
                go_simp
                refine hK'.out _ _ hS (fun hS => ?_)
                clear hK' K'
                refine wpAnyH_ready (rs := [14]) (by kernel_rfl) (by simp) ?_
                refine AllReadyH.cons rfl (fun K' hK' => ?_) AllReadyH.nil
                go_simp
                obtain ⟨u3, hu3⟩ : ∃ W, u2.alloc (.cells #[.int .u64 vu, .int .i64 vi, .string vs] 60) = W := ⟨_, rfl⟩
                have hbl : Below u2.heap.size u2 u3 := by rw [← hu3]; exact (Below.refl _ _).alloc (Nat.le_refl _) _
                have hnew : ∀ j u, ([.int .u64 vu, .int .i64 vi, .string vs] : List Value)[j]? = some u → u3.cell? ((⟨u2.heap.size, 0, none⟩ : Addr).add j) = some u := by rw [← hu3]; exact World.news_of_block (cs := #[.int .u64 vu, .int .i64 vi, .string vs]) (t := 60) (fr := (0, 0)) (heap_alloc_new u2 _)
                have hB3 := hB2.trans (hbl.mono hB2.size)
                have hG := hG.below hbl hG.lt
                rw [hu3]
                clear hu3
                refine hK'.out _ _ ⟨hS.1.below hbl hS.1.lt, hS.2.trans (hbl.mono hS.2.size)⟩ (fun hS => ?_)
                clear hK' K'
                refine wpAnyH_ready (rs := [15]) (by kernel_rfl) (by simp) ?_
                refine AllReadyH.cons rfl (fun K' hK' => ?_) AllReadyH.nil
                have hrow3 := HROW.out u3 hB3
                have hz3 : b5 ≤ u3.heap.size := Nat.le_trans HBR.out hB3.size
                refine step_append_lies _ (by rfl) _ _ _ (by rfl) b5 60 j0 (.agg #[.int .u64 0, .int .i64 0, .string ⟨#[]⟩]) 3 32 Try.underlying34 hj hy0 hy1 hy2 rfl (by decide) v y _ (by rfl) hrow3 ⟨u2.heap.size, 0, none⟩ 1 1 [.int .u64 vu, .int .i64 vi, .string vs] (by rfl) (by rfl) hnew (by simp [Value.oneCell']) (by omega) HKA.out.1 HKA.out.2 hz3 _ rfl ?_
                intro gg cc u4 hown4 hgrow hat hlt4
                have hne4 := hG.not_row (by decide) hrow3
                have hnp4 := hS.1.not_row (by decide) hrow3
                have hk4 : Below b5 wr u4 := (hB3.mono HBR.out).grown hgrow hz3 (fun k hk => (hrow3.lt k hk).1)
                have hH4 := hG.kept hgrow hne4
                refine hK'.out _ _ ⟨hS.1.kept hgrow hnp4, hS.2.grown hgrow hS.2.size (fun k hk => by have h1 := (hrow3.lt k hk).1; omega)⟩ (fun hS => ?_)
                clear hK' K'
                refine wpAnyH_take (i := 16) (v := ?v16_14) rfl (by kernel_rfl) (by kernel_rfl) (by kernel_rfl) (fun _ _ _ h => h) (Or.inl ⟨by rfl, ?y16_14⟩) hS ?r16_14
                case y16_14 =>
                  rintro W hH
                  go_simp
                  with_reducible rfl
                simp only [Act.put]
                try simp only [List.getElem_toArray, List.getElem_cons_succ, List.getElem_cons_zero]
                refine wpAnyH_ready (rs := [17]) (by kernel_rfl) (by simp) ?_
                refine AllReadyH.cons rfl (fun K' hK' => ?_) AllReadyH.nil
                have s2 := hH4.cell 2
                have hff := hH4.frozen
                go_simp
                refine hK'.out _ _ ⟨hS.1.far (by show gd ≠ gB; exact hnec) _, hS.2.setCell (p := ⟨gB, 2, none⟩) hgBw _⟩ (fun hS => ?_)
                clear hK' K'
                refine wpAnyH_done (by kernel_rfl) ?_ _
                obtain ⟨w7, hw7⟩ : ∃ W, u4.setCell ⟨gB, 2, none⟩ (.slice (some ⟨gg, 0, none⟩) (y + 1) cc) = W := ⟨_, rfl⟩
                have hk7 : Kx gB b5 w5 w7 := by rw [← hw7]; exact HKY.out.trans ((Kx.of_below hk4 (Nat.le_of_lt hgBb)).set 2 _)
                have hH7 : Held w7 gB 36 #[.int .i64 id, .slice (some ⟨gp, op, none⟩) np cp, .slice (some ⟨gg, 0, none⟩) (y + 1) cc] := by rw [← hw7]; have h := hH4.set 2 (.slice (some ⟨gg, 0, none⟩) (y + 1) cc); simpa using h
                have hO7 : w7.ownsRow b5 60 3 (.slice (some ⟨gg, 0, none⟩) (y + 1) cc) (y + 1) (valC (rdVs (ps.take y) (l.drop (a + 2))) ++ [.int .u64 vu, .int .i64 vi, .string vs]) := by rw [← hw7]; exact hown4.kept (grownBy_set (World.grownBy.refl _ _) (p := ⟨gB, 2, none⟩) rfl _) (.inr (hH4.not_row (by decide) hown4).symm)
                rw [hw7]
                clear hw7 hS
                go_wp2_with fail
                go_roundw
                case rel => exact ⟨y + 1, _, by omega, by go_num, by rw [HSTN.out, show a + 2 + (T1 + q) = te by have h := HTT.out; omega], hH7, by rw [HRN.out, valC_append]; exact hO7, hk7⟩
                case measure => simp [intOf]; omega
              · skip
                go_simp
                obtain ⟨u3, hu3⟩ : ∃ W, u2.alloc (.cells #[.int .u64 vu, .int .i64 vi, .string vs] 60) = W := ⟨_, rfl⟩
                have hbl : Below u2.heap.size u2 u3 := by rw [← hu3]; exact (Below.refl _ _).alloc (Nat.le_refl _) _
                have hnew : ∀ j u, ([.int .u64 vu, .int .i64 vi, .string vs] : List Value)[j]? = some u → u3.cell? ((⟨u2.heap.size, 0, none⟩ : Addr).add j) = some u := by rw [← hu3]; exact World.news_of_block (cs := #[.int .u64 vu, .int .i64 vi, .string vs]) (t := 60) (fr := (0, 0)) (heap_alloc_new u2 _)
                have hB3 := hB2.trans (hbl.mono hB2.size)
                have hG := hG.below hbl hG.lt
                rw [hu3]
                clear hu3
                refine hK'.out _ _ ⟨hS.1.below hbl hS.1.lt, hS.2.trans (hbl.mono hS.2.size)⟩ (fun hS => ?_)
                clear hK' K'
                refine wpAnyH_ready (rs := [1]) (by kernel_rfl) (by simp) ?_
                refine AllReadyH.cons rfl (fun K' hK' => ?_) AllReadyH.nil
                have q2 := hG.cell 2
                go_simp
                refine hK'.out _ _ hS (fun hS => ?_)
                clear hK' K'
                refine wpAnyH_ready (rs := [15]) (by kernel_rfl) (by simp) ?_
                refine AllReadyH.cons rfl (fun K' hK' => ?_) AllReadyH.nil
                have hrow3 := HROW.out u3 hB3
                have hz3 : b5 ≤ u3.heap.size := Nat.le_trans HBR.out hB3.size
                refine step_append_lies _ (by rfl) _ _ _ (by rfl) b5 60 j0 (.agg #[.int .u64 0, .int .i64 0, .string ⟨#[]⟩]) 3 32 Try.underlying34 hj hy0 hy1 hy2 rfl (by decide) v y _ (by rfl) hrow3 ⟨u2.heap.size, 0, none⟩ 1 1 [.int .u64 vu, .int .i64 vi, .string vs] (by rfl) (by rfl) hnew (by simp [Value.oneCell']) (by omega) HKA.out.1 HKA.out.2 hz3 _ rfl ?_
                intro gg cc u4 hown4 hgrow hat hlt4
                have hne4 := hG.not_row (by decide) hrow3
                have hnp4 := hS.1.not_row (by decide) hrow3
                have hk4 : Below b5 wr u4 := (hB3.mono HBR.out).grown hgrow hz3 (fun k hk => (hrow3.lt k hk).1)
                have hH4 := hG.kept hgrow hne4
                refine hK'.out _ _ ⟨hS.1.kept hgrow hnp4, hS.2.grown hgrow hS.2.size (fun k hk => by have h1 := (hrow3.lt k hk).1; omega)⟩ (fun hS => ?_)
                clear hK' K'
                refine wpAnyH_take (i := 16) (v := ?v16_15) rfl (by kernel_rfl) (by kernel_rfl) (by kernel_rfl) (fun _ _ _ h => h) (Or.inl ⟨by rfl, ?y16_15⟩) hS ?r16_15
                case y16_15 =>
                  rintro W hH
                  go_simp
                  with_reducible rfl
                simp only [Act.put]
                try simp only [List.getElem_toArray, List.getElem_cons_succ, List.getElem_cons_zero]
                refine wpAnyH_ready (rs := [17]) (by kernel_rfl) (by simp) ?_
                refine AllReadyH.cons rfl (fun K' hK' => ?_) AllReadyH.nil
                have s2 := hH4.cell 2
                have hff := hH4.frozen
                go_simp
                refine hK'.out _ _ ⟨hS.1.far (by show gd ≠ gB; exact hnec) _, hS.2.setCell (p := ⟨gB, 2, none⟩) hgBw _⟩ (fun hS => ?_)
                clear hK' K'
                refine wpAnyH_done (by kernel_rfl) ?_ _
                obtain ⟨w7, hw7⟩ : ∃ W, u4.setCell ⟨gB, 2, none⟩ (.slice (some ⟨gg, 0, none⟩) (y + 1) cc) = W := ⟨_, rfl⟩
                have hk7 : Kx gB b5 w5 w7 := by rw [← hw7]; exact HKY.out.trans ((Kx.of_below hk4 (Nat.le_of_lt hgBb)).set 2 _)
                have hH7 : Held w7 gB 36 #[.int .i64 id, .slice (some ⟨gp, op, none⟩) np cp, .slice (some ⟨gg, 0, none⟩) (y + 1) cc] := by rw [← hw7]; have h := hH4.set 2 (.slice (some ⟨gg, 0, none⟩) (y + 1) cc); simpa using h
                have hO7 : w7.ownsRow b5 60 3 (.slice (some ⟨gg, 0, none⟩) (y + 1) cc) (y + 1) (valC (rdVs (ps.take y) (l.drop (a + 2))) ++ [.int .u64 vu, .int .i64 vi, .string vs]) := by rw [← hw7]; exact hown4.kept (grownBy_set (World.grownBy.refl _ _) (p := ⟨gB, 2, none⟩) rfl _) (.inr (hH4.not_row (by decide) hown4).symm)
                rw [hw7]
                clear hw7 hS
                go_wp2_with fail
                go_roundw
                case rel => exact ⟨y + 1, _, by omega, by go_num, by rw [HSTN.out, show a + 2 + (T1 + q) = te by have h := HTT.out; omega], hH7, by rw [HRN.out, valC_append]; exact hO7, hk7⟩
                case measure => simp [intOf]; omega
          obtain rfl : y = np := by omega
          have htk : ps.take y = ps := List.take_of_length_le (by rw [HPL.out]; exact Nat.le_refl _)
          rw [htk, HT.out]
          rw [htk] at hrow
          obtain ⟨Ax, cx, hv, _, _⟩ := own_form hrow
          subst hv
          have hvl : VlI wr wr.heap.size Ax y cx (rdVs ps (l.drop (a + 2))) := by
            obtain ⟨A9, c9, h9, hs9⟩ := SlV.of_own (by omega) hrow
            injection h9 with h91 h92 h93
            subst h91 h93
            exact VlI.of_cells hs9
          have htv := TyAt.of_own hrow
          have hkp : ∀ b, b < gd → wr.heap[b]? = w2.heap[b]? := fun b hb => (hky.2 b (by omega) (by omega)).trans (HKX5.out.2 b (by omega) (by omega))
          have hrowr := mown_same HROW2.out (w' := wr) (fun b hb => hkp b (HRLT.out b hb))
          have hsamer : SameAt w2 wr cs := fun A n c hm a e => hkp _ (HLT2.out A n c hm a e)
          have hbkr := HBK2.out.same (Nat.le_trans (Nat.le_of_eq HB2S.out) (by omega : b2 ≤ wr.heap.size)) hsamer
          have hctr := HCT2.out.same hsamer
          have hwr0 := hby.size
          have hbkn : BkC wr wr.heap.size [.int .i64 id, .slice Ap y cp, .slice Ax y cx] [blkR ⟨id, ps⟩ (l.drop (a + 2))] := ⟨Ap, y, cp, Ax, y, cx, [], rfl, HPW.out.up hby, hvl, HRIN.out, rfl⟩
          have hctn : CellsQ wr w.heap.size [.int .i64 id, .slice Ap y cp, .slice Ax y cx] := by
            intro A9 n9 c9 hm
            simp only [List.mem_cons, List.not_mem_nil, or_false] at hm
            rcases hm with hm | hm | hm
            · cases hm
            · injection hm with hm1 hm2 hm3
              rw [hm1]
              exact Or.inl (HPW.out.lt (by omega))
            · injection hm with hm1 hm2 hm3
              rw [hm1]
              exact Or.inr htv
          have hbka := hbkr.append hbkn
          have hcta : CellsQ wr w.heap.size (cs ++ [.int .i64 id, .slice Ap y cp, .slice Ax y cx]) := fun A9 n9 c9 hm => (List.mem_append.1 hm).elim (hctr A9 n9 c9) (hctn A9 n9 c9)
          obtain ⟨w6, hw6⟩ : ∃ W, wr.alloc (.cells #[.int .i64 id, .slice Ap y cp, .slice Ax y cx] 36) = W := ⟨_, rfl⟩
          have hb6 : Below wr.heap.size wr w6 := by rw [← hw6]; exact (Below.refl _ _).alloc (Nat.le_refl _) _
          have hsl6 : SlV w6 w6.heap.size (some ⟨wr.heap.size, 0, none⟩) 1 1 3 [.int .i64 id, .slice Ap y cp, .slice Ax y cx] := by rw [← hw6]; exact SlV.of_lit rfl rfl (by omega)
          have hrow6 := mown_up hrowr hb6
          have hsame6 := hcta.below hwr0 hb6
          have hbk6 := hbka.up hb6
          have hct6 := hcta.same hsame6
          have hb6w := hby.trans (hb6.mono hby.size)
          have hz6 := hb6w.size
          have HBK6 := Lib.hid hbk6
          have HCT6 := Lib.hid hct6
          have hkA : k + 1 ≤ maxLen ∧ (k + 1) * 56 ≤ 140737488355328 := by unfold maxLen; omega
          have HKA := Lib.hid hkA
          have hrd9 : rdL ds (l.length + 1) (l.drop 2) = (rdL ds f' (l.drop (a + 2 + T))).map (fun x => ((bo ++ [blkR ⟨id, ps⟩ (l.drop (a + 2))]) ++ x.1, x.2)) := by
            rw [HRD.out, HST2.out (by rw [List.length_drop, HL.out]; omega), if_neg (by rw [List.length_drop, HL.out]; omega), List.drop_drop, List.drop_drop, show a + (2 + T) = a + 2 + T by omega]
            cases rdL ds f' (l.drop (a + 2 + T)) with
            | none => rfl
            | some x => simp
          have HRD9 := Lib.hid hrd9
          have hone6 : ∀ u ∈ ([.int .i64 id, .slice Ap y cp, .slice Ax y cx] : List Value), u.oneCell' = true := by intro u hu; simp only [List.mem_cons, List.not_mem_nil, or_false] at hu; rcases hu with rfl | rfl | rfl <;> rfl
          have HONE6 := Lib.hid hone6
          have yI : ¬ (y : Int) < (y : Int) := by omega
          clear hrow hvl htv hkp hrowr hsamer hbkr hctr hbkn hctn hbka hcta hsame6 hbk6 hct6 hkA hrd9 hone6 htk HROWY
          go_wp2_with ((with_reducible refine at_append ?_); refine wpList_append_slv w6 rfl (.tmp 129) (.tmp 131) 22 rfl w.heap.size 36 i0 (.agg #[.int .i64 0, .slice none 0 0, .slice none 0 0]) 3 56 Try.underlying22 hi hz0 hz1 hz2 rfl (by omega) _ k _ rfl hrow6 w6.heap.size (some ⟨wr.heap.size, 0, none⟩) 1 1 [.int .i64 id, .slice Ap y cp, .slice Ax y cx] rfl hsl6 HONE6.out HKA.out.1 HKA.out.2 hz6 ?_; intro v7 w7 hO7 hg7 hv7; have hb7 := hb6w.grown hg7 hz6 (fun B hB => (hrow6.lt B hB).1); have hs7 := HCT6.out.grown hz6 hrow6 (Nat.le_refl _) (by decide) hg7; have hbk7 := HBK6.out.same hg7.size hs7; have hct7 := HCT6.out.same hs7; clear hg7 hv7)
          go_roundw
          case rel => exact ⟨f', a + 2 + T, k + 1, _, _, rfl, hO7, hbk7, hct7, HRD9.out, by rw [List.length_drop, HL.out]; omega, by omega, by omega, hb7⟩
          case measure => simp [intOf]; omega
end Go.Proofs.Ytnnknnaimabehaa
