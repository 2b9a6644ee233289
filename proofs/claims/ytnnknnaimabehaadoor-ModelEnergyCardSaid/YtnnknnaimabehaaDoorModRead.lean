/- model.Read. -/
import Derived.Test.YtnnknnaimabehaaDoorModEqW
import Derived.Test.YtnnknnaimabehaaDoorModIdx
import Derived.Test.YtnnknnaimabehaaDoorModReadP
import Derived.Test.YtnnknnaimabehaaDoorModImg2
import Derived.Test.YtnnknnaimabehaaDoorModJoinQ
namespace Go.Proofs.YtnnknnaimabehaaDoor
open Go.RowKit
set_option linter.unusedVariables false
set_option maxRecDepth 100000
theorem infoBlk' : (Tryd.prog.info? 37).map (fun i => (i.zero, i.size, i.bytes)) = some (some (.agg #[.int .i64 0, .slice none 0 0, .slice none 0 0]), 3, 56) := by kernel_rfl
/-- What Read answers. -/
def RdPost (w : World) (o : Option (List BlkP)) (e : Ending) (w' : World) : Prop := ∃ A n c er, e = .returned (.tuple #[.slice A n c, .int .i64 er]) ∧ (er = if o.isSome then 0 else 260) ∧ (∀ bs, o = some bs → BkI w' w'.heap.size A n c bs) ∧ (o = none → A = none ∧ n = 0 ∧ c = 0) ∧ Below w.heap.size w w'
theorem rdpost_none {w w' : World} {o : Option (List BlkP)} (h : o = none) (hb : Below w.heap.size w w') : RdPost w o (.returned (.tuple #[.slice none 0 0, .int .i64 260])) w' := by
  subst h
  exact ⟨none, 0, 0, 260, rfl, rfl, (fun bs h => by cases h), (fun _ => ⟨rfl, rfl, rfl⟩), hb⟩
theorem rdpost_some {w w' : World} {o : Option (List BlkP)} {bs : List BlkP} (h : o = some bs) (hb : Below w.heap.size w w') {A : Option Addr} {n c : Nat} (hB : BkI w' w'.heap.size A n c bs) : RdPost w o (.returned (.tuple #[.slice A n c, .int .i64 0])) w' := by
  subst h
  exact ⟨A, n, c, 0, rfl, rfl, (fun bs' h => by injection h with h; rw [← h]; exact hB), (fun h => by cases h), hb⟩
def sliceN : Value → Nat
  | .slice _ n _ => n
  | _ => 0
theorem readP_no (ds : List DefP) (l : List Int) (h : ¬ (mayD ds ∧ 4 ≤ l.length)) : readP ds l = none := by unfold readP; rw [if_neg h]
theorem readP_nil (ds : List DefP) (l : List Int) (h : rdL ds (l.length + 1) (l.drop 2) = none) : readP ds l = none := by
  unfold readP
  rw [h]
  split <;> rfl
theorem readP_bad (ds : List DefP) (l : List Int) (x : List BlkP × List Int) (h : rdL ds (l.length + 1) (l.drop 2) = some x) (hi : imageP x.1 ≠ some l) : readP ds l = none := by
  unfold readP
  rw [h]
  dsimp only
  rw [if_neg hi]
  split <;> rfl
theorem readP_yes (ds : List DefP) (l : List Int) (x : List BlkP × List Int) (hm : mayD ds) (h4 : 4 ≤ l.length) (h : rdL ds (l.length + 1) (l.drop 2) = some x) (hi : imageP x.1 = some l) : readP ds l = some x.1 := by
  unfold readP
  rw [if_pos ⟨hm, h4⟩, h]
  dsimp only
  rw [if_pos hi]
theorem sumT_pos (ps : List PtP) (h : ps.all ptB = true) : ps.length ≤ sumT ps := by
  induction ps with
  | nil => exact Nat.zero_le _
  | cons p r ih =>
    simp only [List.all_cons, Bool.and_eq_true] at h
    have h1 := ptB_in h.1
    have h2 := ih h.2
    simp only [sumT, List.map_cons, List.sum_cons, List.length_cons] at h2 ⊢
    omega
set_option maxHeartbeats 1000000 in
theorem rd1_any (gb : Nat) (A1 : Option Addr) (n1 c1 : Nat) (left : List Int) (i : Int) (Ap : Option Addr) (np cp : Nat) (X : World) (hB : Held X gb 22 #[.slice A1 n1 c1]) (hS : SlI X X.heap.size .u16 A1 n1 c1 left) (hx : ∀ x ∈ left, 0 ≤ x ∧ x < 65536) (h0 : 0 < n1) :
    Calls Tryd.prog 23 #[.agg #[.int .i64 i, .slice Ap np cp], .pointer (some ⟨gb, 0, none⟩)] X fun e X' => e = .returned (.bool (i == left.getD 0 0)) ∧ Below X.heap.size X X' := by
  obtain ⟨w1, hw1⟩ : ∃ W, X.alloc (.cells #[.int .i64 i, .slice Ap np cp] 34) = W := ⟨_, rfl⟩
  have hb1 : Below X.heap.size X w1 := by rw [← hw1]; exact (Below.refl _ X).alloc (Nat.le_refl _) _
  have hK1 : Held w1 X.heap.size 34 #[.int .i64 i, .slice Ap np cp] := by rw [← hw1]; exact Held.new X _ _
  have hB1 := hB.below hb1 hB.lt
  obtain ⟨g, off, x, rfl, _, hxx, hc⟩ := (hS.up hb1).2.2.2.2.at_ (i := 0) (by rw [hS.1]; exact h0)
  have hx1 := hx x (List.mem_of_getElem? hxx)
  have hg : left.getD 0 0 = x := by simp [List.getD, hxx]
  rw [hg]
  have hwr : IntKind.i64.wrap x = x := IntWalk.i64_in _ (by omega)
  have k0 := hK1.cell 0
  have b0 := hB1.cell 0
  rw [Nat.add_zero] at hc
  have hI : (0 : Int) < (n1 : Int) := by omega
  clear hB hS hx hxx hg
  go_in
  go_wp2
  go_quiet (fail)
  go_wp2
  go_ret
  exact ⟨rfl, below_drewN hb1 _⟩
set_option maxHeartbeats 8000000 in
theorem read_own (A : Option Addr) (n c : Nat) (l : List Int) (A' : Option Addr) (n' c' : Nat) (ds : List DefP) (w : World) (hS : SlI w w.heap.size .u16 A n c l) (hx : ∀ x ∈ l, 0 ≤ x ∧ x < 65536) (hn : n ≤ 10000) (hD : DfI w w.heap.size A' n' c' ds) :
    Calls Tryd.prog 9 #[.slice A n c, .slice A' n' c'] w (RdPost w (readP ds l)) := by
  obtain ⟨i0, hi, hz0, hz1, hz2⟩ := info_parts infoBlk'
  have hl := hS.1
  have hnc := hS.2.1
  have HS := Lib.hid (fun (X : World) (h : Below w.heap.size w X) => hS.up h)
  have HD := Lib.hid (fun (X : World) (h : Below w.heap.size w X) => hD.up h)
  have HL := Lib.hid hl
  have HX := Lib.hid hx
  have hdl := hD.1
  have HDL := Lib.hid hdl
  obtain ⟨O, hO⟩ : ∃ O, readP ds l = O := ⟨_, rfl⟩
  have HO := Lib.hid hO
  rw [hO]
  clear hS hD hl hx hO hdl
  have hcf1 := fun (xs : Array Value) (W : World) => (enters_of Tryd.func23 (by kernel_rfl) rfl xs W : (callFunc 23 xs).run Tryd.prog W = .ok (.enter 23 xs) W)
  go_in
  go_wp2_with fail
  refine (mmay_any A' n' c' ds w (HD.out w (Below.refl _ _))).mono ?_
  rintro e w1 ⟨b, rfl, hbm, hb1⟩
  have HBM := Lib.hid hbm
  clear hbm
  cases b with
  | false =>
    have h : O = none := HO.out.symm.trans (readP_no ds l (fun h => by have := HBM.out.2 h.1; cases this))
    subst h
    go_wp2_with fail
    go_ret2
    exact rdpost_none rfl hb1
  | true =>
  by_cases h4 : n < 4
  case pos =>
    have h : O = none := HO.out.symm.trans (readP_no ds l (fun h => by have := h.2; rw [HL.out] at this; omega))
    subst h
    have t1 : (n : Int) < 4 := by omega
    go_wp2_with fail
    go_ret2
    exact rdpost_none rfl hb1
  have t1 : ¬ (n : Int) < 4 := by omega
  obtain ⟨g, off, rfl, hg⟩ := (HS.out w (Below.refl _ _)).some_ (by omega)
  have hc2 : ¬ c = 2 := by omega
  have hc3 : 2 ≤ c := by omega
  have hn2 : 2 ≤ n := by omega
  have HMAY := Lib.hid (HBM.out.1 rfl)
  have HSD := Lib.hid (fun (X : World) (h : Below w.heap.size w X) => (HS.out X h).drop 2 hn2)
  obtain ⟨w2, hw2⟩ : ∃ W, w1.alloc (.cells #[.slice (some ⟨g, off + 2, none⟩) (n - 2) (c - 2)] 22) = W := ⟨_, rfl⟩
  have hb2 : Below w1.heap.size w1 w2 := by rw [← hw2]; exact (Below.refl _ _).alloc (Nat.le_refl _) _
  have hb2w := hb1.trans (hb2.mono hb1.size)
  have hK2 : Held w2 w1.heap.size 22 #[.slice (some ⟨g, off + 2, none⟩) (n - 2) (c - 2)] := by rw [← hw2]; exact Held.new _ _ _
  have hgb1 := hb1.size
  have hown0 : w2.ownsRow w.heap.size 37 3 (.slice none 0 0) 0 [] := World.ownsRow_nil _ _ _ _
  go_wp2_with fail
  go_loopw [6, 7] (fun s6 s7 wx => ∃ (f : Nat) (left : List Int) (k : Nat) (cs : List Value) (bo : List BlkP) (A1 : Option Addr) (n1 c1 gb : Nat), s7 = .pointer (some ⟨gb, 0, none⟩) ∧ Held wx gb 22 #[.slice A1 n1 c1] ∧ (∀ (X : World), Below w.heap.size w X → SlI X X.heap.size .u16 A1 n1 c1 left) ∧ (∀ x ∈ left, 0 ≤ x ∧ x < 65536) ∧ wx.ownsRow w.heap.size 37 3 s6 k cs ∧ BkC wx wx.heap.size cs bo ∧ CellsT wx cs ∧ rdL ds (l.length + 1) (l.drop 2) = (rdL ds f left).map (fun x => (bo ++ x.1, x.2)) ∧ left.length < f ∧ 2 * k + left.length ≤ 10000 ∧ Below w.heap.size w wx ∧ w.heap.size ≤ gb) (fun s6 _ _ => 10000 - sliceN s6)
  case atStart => exact ⟨l.length + 1, l.drop 2, 0, [], [], _, _, _, w1.heap.size, rfl, hK2, fun X h => HSD.out X h, fun x hx => HX.out x (List.mem_of_mem_drop hx), hown0, rfl, (fun A n c h => by cases h), by cases rdL ds (l.length + 1) (l.drop 2) <;> rfl, by rw [List.length_drop]; omega, by rw [List.length_drop, HL.out]; omega, hb2w, hgb1⟩
  case round =>
    obtain ⟨f, left, k, cs, bo, A1, n1, c1, gb, rfl, hK, hsl, hxl, hrow, hbk, hct, hrd, hlf, hkl, hbr, hgb⟩ := hrel
    clear hown0 hK2
    have hln1 := (hsl wr hbr).1
    have hcn1 := (hsl wr hbr).2.1
    rw [hln1] at hlf hkl
    obtain ⟨f', rfl⟩ : ∃ f', f = f' + 1 := ⟨f - 1, by omega⟩
    obtain ⟨Av, cv, hv, _, _⟩ := own_form hrow
    subst hv
    have k0 := hK.cell 0
    have HSL := Lib.hid hsl
    have HXL := Lib.hid hxl
    have HRD := Lib.hid hrd
    have HBK := Lib.hid hbk
    have HCT := Lib.hid hct
    have HROW := Lib.hid hrow
    have HLN := Lib.hid hln1
    clear hsl hxl hrd hbk hct hrow hln1
    by_cases hc : 2 ≤ n1 ∧ left.getD 0 0 ≠ 65535
    case neg =>
      have hend : rdL ds (f' + 1) left = some ([], left) := by
        unfold rdL
        rw [if_neg (by rw [HLN.out]; exact hc)]
      have htot : rdL ds (l.length + 1) (l.drop 2) = some (bo, left) := by rw [HRD.out, hend]; simp
      have HTOT := Lib.hid htot
      have hBK : BkI wr wr.heap.size Av k cv bo := by
        obtain ⟨A9, c9, h9, hs9⟩ := SlV.of_own (by omega) HROW.out
        injection h9 with h91 h92 h93
        subst h91 h93
        exact BkI.of_cells hs9 HBK.out
      have HBI := Lib.hid (fun (X : World) (h : Below wr.heap.size wr X) => hBK.up h)
      have HIM := Lib.hid (image_ownN Av k cv bo (by omega) wr hBK)
      obtain ⟨oi, hoi⟩ : ∃ o, imageP bo = o := ⟨_, rfl⟩
      rw [hoi] at HIM
      have HOI := Lib.hid hoi
      clear hend htot hBK hoi
      have hway : n1 < 2 ∨ (2 ≤ n1 ∧ ∃ g1 o1, A1 = some ⟨g1, o1, none⟩ ∧ wr.cell? ⟨g1, o1, none⟩ = some (.int .u16 65535)) := by
        by_cases h2 : 2 ≤ n1
        · refine Or.inr ⟨h2, ?_⟩
          obtain ⟨g1, o1, x, rfl, _, hxx, hcc⟩ := (HSL.out wr hbr).2.2.2.2.at_ (i := 0) (by rw [HLN.out]; omega)
          refine ⟨g1, o1, rfl, ?_⟩
          have h65 : left.getD 0 0 = 65535 := Classical.byContradiction fun h => hc ⟨h2, h⟩
          have : left.getD 0 0 = x := by simp [List.getD, hxx]
          rw [Nat.add_zero] at hcc
          rw [hcc, ← this, h65]
        · exact Or.inl (by omega)
      clear hc
      rcases hway with h2 | ⟨h2, g1, o1, rfl, hcell⟩
      all_goals
        first
          | have t2 : ¬ ((n1 : Int) ≥ 2) := by omega
          | (have t2 : (n1 : Int) ≥ 2 := by omega
             have t3 : (0 : Int) < (n1 : Int) := by omega)
        go_wp2_with fail
        refine HIM.out.mono ?_
        rintro e w5 ⟨A5, n5, c5, er, rfl, her, hs5, hb5, _⟩
        have HER := Lib.hid her
        have HS5 := Lib.hid hs5
        have hb5w := hbr.trans (hb5.mono hbr.size)
        clear her hs5
        cases oi with
        | none =>
          obtain rfl : er = 260 := HER.out
          have h : O = none := HO.out.symm.trans (readP_bad ds l _ HTOT.out (by rw [HOI.out]; simp))
          subst h
          go_wp2_with fail
          go_ret2
          exact rdpost_none rfl hb5w
        | some L =>
          obtain rfl : er = 0 := HER.out
          have HEQ := Lib.hid (eqw_any A5 _ n5 n c5 c L l w5 (HS5.out L rfl) (HS.out w5 hb5w))
          obtain ⟨q, hq⟩ : ∃ q, decide (L = l) = q := ⟨_, rfl⟩
          rw [hq] at HEQ
          have HQ := Lib.hid hq
          clear hq
          go_wp2_with fail
          refine HEQ.out.mono ?_
          rintro e w6 ⟨rfl, m6, hw6⟩
          have hb6 : Below wr.heap.size wr w6 := by rw [hw6]; exact below_drewN hb5 _
          have hb6w := hbr.trans (hb6.mono hbr.size)
          clear hw6
          cases q with
          | false =>
            have h : O = none := HO.out.symm.trans (readP_bad ds l _ HTOT.out (by rw [HOI.out]; intro h; injection h with h; exact of_decide_eq_false HQ.out h))
            subst h
            go_wp2_with fail
            go_ret2
            exact rdpost_none rfl hb6w
          | true =>
            have h : O = some bo := HO.out.symm.trans (readP_yes ds l _ HMAY.out (by rw [HL.out]; omega) HTOT.out (by rw [HOI.out, of_decide_eq_true HQ.out]))
            subst h
            go_wp2_with fail
            go_ret2
            exact rdpost_some rfl hb6w (HBI.out w6 hb6)
    obtain ⟨h2, hx0⟩ := hc
    obtain ⟨g1, o1, x0, rfl, _, hxx, hcell⟩ := (HSL.out wr hbr).2.2.2.2.at_ (i := 0) (by rw [HLN.out]; omega)
    have hgx : left.getD 0 0 = x0 := by simp [List.getD, hxx]
    rw [hgx] at hx0
    rw [Nat.add_zero] at hcell
    have t2 : (n1 : Int) ≥ 2 := by omega
    have t3 : (0 : Int) < (n1 : Int) := by omega
    have t4 : (x0 != 65535) = true := by simpa using hx0
    have hstep : rdL ds (f' + 1) left = (match idxP x0 ds with
      | none => none
      | some i => if left.length < 2 + sumT (ds.getD i ⟨0, []⟩).pts then none else
        match rdL ds f' (left.drop (2 + sumT (ds.getD i ⟨0, []⟩).pts)) with
        | none => none
        | some x => some (blkR (ds.getD i ⟨0, []⟩) (left.drop 2) :: x.1, x.2)) := by
      rw [rdL, if_pos ⟨by rw [HLN.out]; exact h2, by rw [hgx]; exact hx0⟩, hgx]
      first | rfl | (cases idxP x0 ds <;> rfl)
    have HIX := Lib.hid (idxf_any 23 gb x0 A' n' c' ds wr (HD.out wr hbr) hcf1 (fun X hX i Ai ni ci => by
      have h := rd1_any gb (some ⟨g1, o1, none⟩) n1 c1 left i Ai ni ci X (hK.below hX hK.lt) (HSL.out X (hbr.trans (hX.mono hbr.size))) HXL.out (by omega)
      rw [hgx] at h
      exact h))
    obtain ⟨oi, hoi⟩ : ∃ o, idxP x0 ds = o := ⟨_, rfl⟩
    rw [hoi] at HIX hstep
    have HOI := Lib.hid hoi
    have HST := Lib.hid hstep
    clear hoi hstep hxx hgx hx0
    cases oi with
    | none =>
      have h : O = none := HO.out.symm.trans (readP_nil ds l (by rw [HRD.out, HST.out]; rfl))
      subst h
      unfold idxV at HIX
      dsimp only at HIX
      go_wp2_with fail
      refine HIX.out.mono ?_
      rintro e w5 ⟨rfl, hb5⟩
      go_wp2_with fail
      go_ret2
      exact rdpost_none rfl (hbr.trans (hb5.mono hbr.size))
    | some i =>
      unfold idxV at HIX
      dsimp only at HIX
      obtain ⟨⟨id, ps⟩, hd, hdid, _⟩ := idxP_some _ _ _ HOI.out
      have hgd : ds.getD i ⟨0, []⟩ = ⟨id, ps⟩ := by simp [List.getD, hd]
      have HST2 := HST.out
      dsimp only at HST2
      rw [hgd] at HST2
      dsimp only at HST2
      have hin : i < n' := by rw [← HDL.out]; exact (List.getElem?_eq_some_iff.1 hd).1
      obtain ⟨gd, od, rfl, hgdd, hcd⟩ := (HD.out w (Below.refl _ _)).2.2.2.2 (by omega)
      obtain ⟨Ap, np, cp, c0, c1', hP⟩ := hcd i _ hd
      dsimp only at c0 hP
      have hmay := (HMAY.out i _ hd).1
      dsimp only at hmay
      have hall : ps.all ptB = true := by unfold defB at hmay; rw [Bool.and_eq_true] at hmay; exact hmay.2
      have hnp : 1 ≤ np ∧ np ≤ 50 := by
        unfold defB at hmay
        rw [Bool.and_eq_true] at hmay
        have := of_decide_eq_true hmay.1
        rw [hP.1] at this
        omega
      have hlp : lenP id ps = (sumT ps : Int) := by
        unfold lenP
        rw [hmay, if_pos rfl]
        exact (sumT_eq ps hall).symm
      have hsm := sumP_in ps hall
      have hTp := sumT_pos ps hall
      rw [hP.1] at hTp
      rw [← sumT_eq ps hall, hP.1] at hsm
      have hbi := blkR
      have HDC : Hid (∀ (X : World), Below w.heap.size w X → X.cell? ⟨gd, od + i * 2, none⟩ = some (.int .i64 id) ∧ X.cell? ⟨gd, od + i * 2 + 1, none⟩ = some (.slice Ap np cp)) := Lib.hid (fun X h => ⟨(h.cell (p := ⟨gd, od + i * 2, none⟩) hgdd).trans c0, (h.cell (p := ⟨gd, od + i * 2 + 1, none⟩) hgdd).trans c1'⟩)
      have HPT := Lib.hid (fun (X : World) (h : Below w.heap.size w X) => hP.up h)
      have HLG := Lib.hid (fun (X : World) (h : Below w.heap.size w X) => mlen_any id Ap np cp ps X (hP.up h))
      rw [hmay, hlp] at HLG
      have HLG2 : Hid (∀ (X : World), Below w.heap.size w X → Calls Tryd.prog 10 #[.agg #[.int .i64 id, .slice Ap np cp]] X fun e w' => e = .returned (.tuple #[.int .i64 (sumT ps : Int), .int .i64 0]) ∧ Below X.heap.size X w') := Lib.hid (by simpa using HLG.out)
      obtain ⟨T, hT⟩ : ∃ T, sumT ps = T := ⟨_, rfl⟩
      rw [hT] at HST2 HLG2 hsm hTp
      rw [HLN.out] at HST2
      have HST3 := Lib.hid HST2
      have HT := Lib.hid hT
      have HALL := Lib.hid hall
      have HRIN := Lib.hid (rdVs_in ps (left.drop 2) (fun x hx => HXL.out x (List.mem_of_mem_drop hx)))
      have HSM := Lib.hid hsm
      clear hsm hdid
      clear hcd hd hgd HST2 HLG hlp hmay c0 c1' hT hall hbi
      have hinI : (i : Int) < (n' : Int) := by omega
      have hi0 : ¬ (i : Int) < 0 := by omega
      go_wp2_with fail
      refine HIX.out.mono ?_
      rintro e w5 ⟨rfl, hb5⟩
      have hb5w := hbr.trans (hb5.mono hbr.size)
      have hK5 := hK.below hb5 hK.lt
      clear k0 hcell
      have k0 := hK5.cell 0
      obtain ⟨q0, q1⟩ := HDC.out w5 hb5w
      go_wp2_with fail
      refine (HLG2.out w5 hb5w).mono ?_
      rintro e w6 ⟨rfl, hb6⟩
      have hb6r := hb5.trans (hb6.mono hb5.size)
      have hb6w := hbr.trans (hb6r.mono hbr.size)
      have hK6 := hK5.below hb6 hK5.lt
      clear k0 q0 q1
      have k0 := hK6.cell 0
      obtain ⟨q0, q1⟩ := HDC.out w6 hb6w
      have hw1 : IntKind.i64.wrap (2 + (T : Int)) = 2 + (T : Int) := IntWalk.i64_in _ (by have := HSM.out; omega)
      by_cases hsh : n1 < 2 + T
      case pos =>
        have h : O = none := HO.out.symm.trans (readP_nil ds l (by rw [HRD.out, HST3.out, if_pos hsh]; rfl))
        subst h
        have t5 : (n1 : Int) < 2 + (T : Int) := by omega
        go_wp2_with fail
        go_ret2
        exact rdpost_none rfl hb6w
      have t5 : ¬ (n1 : Int) < 2 + (T : Int) := by omega
      have hc12 : ¬ c1 = 2 := by omega
      have hc13 : 2 ≤ c1 := by omega
      have HSL2 := Lib.hid (fun (X : World) (h : Below w.heap.size w X) => (HSL.out X h).drop 2 h2)
      have HBLK := Lib.hid (fun (X : World) (h : Below w.heap.size w X) => block_own id Ap np cp ps (some ⟨g1, o1 + 2, none⟩) (n1 - 2) (c1 - 2) (left.drop 2) X (HPT.out X h) HALL.out (by omega) (by omega) (HSL2.out X h) (fun x hx => HXL.out x (List.mem_of_mem_drop hx)) (by rw [HT.out]; omega))
      have HROW6 := Lib.hid (fun (X : World) (h : Below w6.heap.size w6 X) => mown_up (mown_up HROW.out hb6r) h)
      have hkA : k + 1 ≤ maxLen ∧ (k + 1) * 56 ≤ 140737488355328 := by unfold maxLen; omega
      have HKA := Lib.hid hkA
      clear hkA
      go_upto_region 12 with (fail)
      obtain ⟨wd12, hwd12⟩ : ∃ W : World, w6.drew = W := ⟨_, rfl⟩
      have hB : Below w6.heap.size w6 wd12 := by rw [← hwd12]; exact (Below.refl _ _).drew
      have hS : Below w.heap.size w wd12 ∧ Held wd12 gb 22 #[.slice (some ⟨g1, o1, none⟩) n1 c1] := by rw [← hwd12]; exact ⟨hb6w.drew, hK6⟩
      refine wp_region_held (S := (fun X => Below w.heap.size w X ∧ Held X gb 22 #[.slice (some ⟨g1, o1, none⟩) n1 c1])) (by kernel_rfl) ?_
      change wpAnyH _ _ _ _ _ _ _ _ w6.drew
      rw [hwd12]
      clear hwd12
      refine wpAnyH_take (i := 0) (v := ?v0_1) rfl (by kernel_rfl) (by kernel_rfl) (by kernel_rfl) (fun _ _ _ h => h) (Or.inl ⟨by rfl, ?y0_1⟩) hS ?r0_1
      case y0_1 =>
        rintro W hH
        go_simp
        with_reducible rfl
      simp only [Act.put]
      try simp only [List.getElem_toArray, List.getElem_cons_zero]
      refine wpAnyH_take (i := 1) (v := ?v1_2) rfl (by kernel_rfl) (by kernel_rfl) (by kernel_rfl) (fun _ _ _ h => h) (Or.inl ⟨by rfl, ?y1_2⟩) hS ?r1_2
      case y1_2 =>
        rintro W hH
        go_simp
        with_reducible rfl
      simp only [Act.put]
      try simp only [List.getElem_toArray, List.getElem_cons_succ, List.getElem_cons_zero]
      refine wpAnyH_take (i := 2) (v := ?v2_3) rfl (by kernel_rfl) (by kernel_rfl) (by kernel_rfl) (fun _ _ _ h => h) (Or.inl ⟨by rfl, ?y2_3⟩) hS ?r2_3
      case y2_3 =>
        rintro W hH
        go_simp
        with_reducible rfl
      simp only [Act.put]
      try simp only [List.getElem_toArray, List.getElem_cons_succ, List.getElem_cons_zero]
      refine wpAnyH_take (i := 3) (v := ?v3_4) rfl (by kernel_rfl) (by kernel_rfl) (by kernel_rfl) (fun _ _ _ h => h) (Or.inl ⟨by rfl, ?y3_4⟩) hS ?r3_4
      case y3_4 =>
        rintro W hH
        go_simp
        with_reducible rfl
      simp only [Act.put]
      try simp only [List.getElem_toArray, List.getElem_cons_succ, List.getElem_cons_zero]
      refine wpAnyH_take (i := 4) (v := ?v4_5) rfl (by kernel_rfl) (by kernel_rfl) (by kernel_rfl) (fun _ _ _ h => h) (Or.inl ⟨by rfl, ?y4_5⟩) hS ?r4_5
      case y4_5 =>
        rintro W hH
        have k0 := hH.2.cell 0
        obtain ⟨q0, q1⟩ := HDC.out W hH.1
        go_simp
        with_reducible rfl
      simp only [Act.put]
      try simp only [List.getElem_toArray, List.getElem_cons_succ, List.getElem_cons_zero]
      refine wpAnyH_take (i := 5) (v := ?v5_6) rfl (by kernel_rfl) (by kernel_rfl) (by kernel_rfl) (fun _ _ _ h => h) (Or.inl ⟨by rfl, ?y5_6⟩) hS ?r5_6
      case y5_6 =>
        rintro W hH
        have k0 := hH.2.cell 0
        obtain ⟨q0, q1⟩ := HDC.out W hH.1
        go_simp
        with_reducible rfl
      simp only [Act.put]
      try simp only [List.getElem_toArray, List.getElem_cons_succ, List.getElem_cons_zero]
      refine wpAnyH_take (i := 6) (v := ?v6_7) rfl (by kernel_rfl) (by kernel_rfl) (by kernel_rfl) (fun _ _ _ h => h) (Or.inl ⟨by rfl, ?y6_7⟩) hS ?r6_7
      case y6_7 =>
        rintro W hH
        go_simp
        with_reducible rfl
      simp only [Act.put]
      try simp only [List.getElem_toArray, List.getElem_cons_succ, List.getElem_cons_zero]
      refine wpAnyH_ready (rs := [7]) (by kernel_rfl) (by simp) ?_
      refine AllReadyH.cons rfl (fun K' hK' => ?_) AllReadyH.nil
      go_simp
      refine (HBLK.out _ hS.1).mono ?_
      rintro e u1 ⟨Aq, cq, Ax, cx, rfl, hpq, hvx, ⟨htq, htx⟩, hbo⟩
      have hB1 := hB.trans (hbo.mono hB.size)
      go_simp
      refine hK'.out _ _ ⟨hS.1.trans (hbo.mono hS.1.size), hS.2.below hbo hS.2.lt⟩ (fun hS => ?_)
      clear hK' K'
      refine wpAnyH_ready (rs := [8]) (by kernel_rfl) (by simp) ?_
      refine AllReadyH.cons rfl (fun K' hK' => ?_) AllReadyH.nil
      go_simp
      obtain ⟨u3, hu3⟩ : ∃ W, u1.alloc (.cells #[.int .i64 id, .slice Aq np cq, .slice Ax np cx] 37) = W := ⟨_, rfl⟩
      have hbl : Below u1.heap.size u1 u3 := by rw [← hu3]; exact (Below.refl _ _).alloc (Nat.le_refl _) _
      have hnew : ∀ j u, ([.int .i64 id, .slice Aq np cq, .slice Ax np cx] : List Value)[j]? = some u → u3.cell? ((⟨u1.heap.size, 0, none⟩ : Addr).add j) = some u := by rw [← hu3]; exact World.news_of_block (cs := #[.int .i64 id, .slice Aq np cq, .slice Ax np cx]) (t := 37) (fr := (0, 0)) (heap_alloc_new u1 _)
      have hB3 := hB1.trans (hbl.mono hB1.size)
      rw [hu3]
      clear hu3
      refine hK'.out _ _ ⟨hS.1.trans (hbl.mono hS.1.size), hS.2.below hbl hS.2.lt⟩ (fun hS => ?_)
      clear hK' K'
      refine wpAnyH_ready (rs := [9]) (by kernel_rfl) (by simp) ?_
      refine AllReadyH.cons rfl (fun K' hK' => ?_) AllReadyH.nil
      have hrow3 := HROW6.out u3 hB3
      have hz3 : w.heap.size ≤ u3.heap.size := hS.1.size
      refine step_append_lies _ (by rfl) _ _ _ (by rfl) w.heap.size 37 i0 (.agg #[.int .i64 0, .slice none 0 0, .slice none 0 0]) 3 56 Tryd.underlying26 hi hz0 hz1 hz2 rfl (by decide) _ k _ (by rfl) hrow3 ⟨u1.heap.size, 0, none⟩ 1 1 [.int .i64 id, .slice Aq np cq, .slice Ax np cx] (by rfl) (by rfl) hnew (by simp [Value.oneCell']) (by omega) HKA.out.1 HKA.out.2 hz3 _ rfl ?_
      intro gg cc u4 hown4 hgrow hat hlt4
      have hnb4 := hS.2.not_row (by decide) hrow3
      refine hK'.out _ _ ⟨hS.1.grown hgrow hz3 (fun k hk => (hrow3.lt k hk).1), hS.2.kept hgrow hnb4⟩ (fun hS => ?_)
      clear hK' K'
      refine wpAnyH_take (i := 10) (v := ?v10_8) rfl (by kernel_rfl) (by kernel_rfl) (by kernel_rfl) (fun _ _ _ h => h) (Or.inl ⟨by rfl, ?y10_8⟩) hS ?r10_8
      case y10_8 =>
        rintro W hH
        go_simp
        with_reducible rfl
      simp only [Act.put]
      try simp only [List.getElem_toArray, List.getElem_cons_succ, List.getElem_cons_zero]
      refine wpAnyH_done (by kernel_rfl) ?_ _
      have hcsT : CellsT wr cs := HCT.out
      have hsame3 : SameAt wr u3 cs := hcsT.below (hb6r.trans (hB3.mono hb6r.size))
      have hct3 := hcsT.same hsame3
      have hsame4 : SameAt u3 u4 cs := hct3.grown hrow3 (by decide) (by decide) hgrow
      have hctn3 : CellsT u3 [.int .i64 id, .slice Aq np cq, .slice Ax np cx] := by
        intro A9 n9 c9 hm
        simp only [List.mem_cons, List.not_mem_nil, or_false] at hm
        rcases hm with hm | hm | hm
        · cases hm
        · injection hm with hm1 hm2 hm3
          rw [hm1]
          exact Or.inl (htq.same (fun a e => hbl.block _ (hpq.lt (by omega) a e)))
        · injection hm with hm1 hm2 hm3
          rw [hm1]
          exact Or.inr (htx.same (fun a e => by
            obtain ⟨cc2, h9⟩ := htx a e
            exact hbl.block _ (Array.getElem?_eq_some_iff.1 h9).1))
      have hsamen4 : SameAt u3 u4 [.int .i64 id, .slice Aq np cq, .slice Ax np cx] := hctn3.grown hrow3 (by decide) (by decide) hgrow
      have hct4 : CellsT u4 (cs ++ [.int .i64 id, .slice Aq np cq, .slice Ax np cx]) := fun A9 n9 c9 hm => (List.mem_append.1 hm).elim ((hct3.same hsame4) A9 n9 c9) ((hctn3.same hsamen4) A9 n9 c9)
      have hbkn : BkC u1 u1.heap.size [.int .i64 id, .slice Aq np cq, .slice Ax np cx] [blkR ⟨id, ps⟩ (left.drop 2)] := ⟨Aq, np, cq, Ax, np, cx, [], rfl, hpq, hvx, HRIN.out, rfl⟩
      have hbkn4 := (hbkn.up hbl).same (W' := u4) hgrow.size hsamen4
      have hbk4 : BkC u4 u4.heap.size (cs ++ [.int .i64 id, .slice Aq np cq, .slice Ax np cx]) (bo ++ [blkR ⟨id, ps⟩ (left.drop 2)]) := (HBK.out.same (Nat.le_trans (hb6r.trans (hB3.mono hb6r.size)).size hgrow.size) (hsame3.trans hsame4)).append hbkn4
      have hK4 := hS.2
      have hb4w := hS.1
      have k0 := hK4.cell 0
      have hff := hK4.frozen
      go_wp2_with fail
      obtain ⟨A2, hA2⟩ : ∃ A2 : Option Addr, (if c1 = 2 + T then some ⟨g1, o1, none⟩ else some ⟨g1, o1 + (2 + T), none⟩) = A2 := ⟨_, rfl⟩
      rw [hA2]
      have hsl9 : ∀ (X : World), Below w.heap.size w X → SlI X X.heap.size .u16 A2 (n1 - (2 + T)) (c1 - (2 + T)) (left.drop (2 + T)) := fun X h => by
        have h9 := (HSL.out X h).drop (2 + T) (by omega)
        rw [← hA2]
        split
        · exact h9.addr (by omega) _
        · exact h9
      obtain ⟨w8, hw8⟩ : ∃ W, u4.setCell ⟨gb, 0, none⟩ (.slice A2 (n1 - (2 + T)) (c1 - (2 + T))) = W := ⟨_, rfl⟩
      have hz8 : w8.heap.size = u4.heap.size := by rw [← hw8]; simp [World.setCell]
      have hrow8 : w8.ownsRow w.heap.size 37 3 (.slice (some ⟨gg, 0, none⟩) (k + 1) cc) (k + 1) (cs ++ [.int .i64 id, .slice Aq np cq, .slice Ax np cx]) := by rw [← hw8]; exact hown4.kept (grownBy_set (World.grownBy.refl _ _) (p := ⟨gb, 0, none⟩) rfl _) (.inr (hK4.not_row (by decide) hown4).symm)
      have hsame8 : SameAt u4 w8 (cs ++ [.int .i64 id, .slice Aq np cq, .slice Ax np cx]) := by rw [← hw8]; exact hct4.set hK4 (by decide) (by decide) _
      have hbk8 := hbk4.same (Nat.le_of_eq hz8.symm) hsame8
      have hct8 := hct4.same hsame8
      have hb8 : Below w.heap.size w w8 := by rw [← hw8]; exact hb4w.setCell (p := ⟨gb, 0, none⟩) hgb _
      rw [hw8]
      obtain ⟨w9, hw9⟩ : ∃ W, w8.alloc (.cells #[.slice A2 (n1 - (2 + T)) (c1 - (2 + T))] 22) = W := ⟨_, rfl⟩
      have hb9 : Below w8.heap.size w8 w9 := by rw [← hw9]; exact (Below.refl _ _).alloc (Nat.le_refl _) _
      have hK9 : Held w9 u4.heap.size 22 #[.slice A2 (n1 - (2 + T)) (c1 - (2 + T))] := by rw [← hw9, ← hz8]; exact Held.new _ _ _
      rw [hw9]
      have hrd9 : rdL ds (l.length + 1) (l.drop 2) = (rdL ds f' (left.drop (2 + T))).map (fun x => ((bo ++ [blkR ⟨id, ps⟩ (left.drop 2)]) ++ x.1, x.2)) := by
        rw [HRD.out, HST3.out, if_neg hsh]
        cases rdL ds f' (left.drop (2 + T)) with
        | none => rfl
        | some x => simp
      refine ⟨⟨f', left.drop (2 + T), k + 1, cs ++ [.int .i64 id, .slice Aq np cq, .slice Ax np cx], bo ++ [blkR ⟨id, ps⟩ (left.drop 2)], A2, n1 - (2 + T), c1 - (2 + T), u4.heap.size, rfl, hK9, hsl9, fun x hx => HXL.out x (List.mem_of_mem_drop hx), mown_up hrow8 hb9, hbk8.up hb9, hct8.same (hct8.below hb9), hrd9, by rw [List.length_drop, HLN.out]; omega, by rw [List.length_drop, HLN.out]; omega, hb8.trans (hb9.mono hb8.size), hb4w.size⟩, ?_⟩
      simp only [sliceN]
      omega
end Go.Proofs.YtnnknnaimabehaaDoor
