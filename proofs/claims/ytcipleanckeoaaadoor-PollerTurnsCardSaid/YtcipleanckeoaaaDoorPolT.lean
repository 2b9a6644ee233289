/- PollerTurns: the walk. -/
import Derived.Test.YtcipleanckeoaaaDoorPolS
import Derived.Test.YtcipleanckeoaaaDoorPolU
import Derived.Deep.Cut
import Derived.Deep.CutRange
namespace Go.Proofs.YtcipleanckeoaaaDoor
open Go.RowKit
attribute [local go_sem] Oper.semAt_some
set_option linter.unusedVariables false
set_option linter.unusedSimpArgs false
set_option maxRecDepth 100000
def tunL (s : PSt) : List Int := s.l.map PPt.turns
theorem tunL_at {s : PSt} {k : Nat} {x : PPt} (h : s.l[k]? = some x) : (tunL s)[k]? = some x.turns := by unfold tunL; rw [List.getElem?_map, h]; rfl
theorem tunL_len (s : PSt) : (tunL s).length = s.l.length := by simp [tunL]
theorem tunL_fail (c : PCf) (s : PSt) : tunL (failP c s).1 = tunL s := by
  unfold failP
  split
  · rfl
  · rename_i x hx
    split
    · rfl
    · show (s.l.set s.opn.toNat _).map PPt.turns = s.l.map PPt.turns
      rw [List.map_set]
      apply List.ext_getElem?
      intro i
      by_cases hi : i = s.opn.toNat
      · subst hi
        have hl := (List.getElem?_eq_some_iff.1 hx).1
        rw [List.getElem?_set_self (by simpa using hl), List.getElem?_map, hx]; rfl
      · rw [List.getElem?_set_ne (fun e => hi e.symm)]
theorem tunL_heard (c : PCf) (s : PSt) : tunL (heardP c s) = tunL s := by
  unfold heardP
  split
  · rfl
  · rename_i x hx
    show (s.l.set s.opn.toNat _).map PPt.turns = s.l.map PPt.turns
    rw [List.map_set]
    apply List.ext_getElem?
    intro i
    by_cases hi : i = s.opn.toNat
    · subst hi
      have hl := (List.getElem?_eq_some_iff.1 hx).1
      rw [List.getElem?_set_self (by simpa using hl), List.getElem?_map, hx]; rfl
    · rw [List.getElem?_set_ne (fun e => hi e.symm)]
theorem tunL_hear {c : PCf} {s s' : PSt} (h : HearR c s s') : tunL s' = tunL s := by
  rcases h with rfl | ⟨_, _, rfl | rfl⟩
  · rfl
  · exact tunL_fail c s
  · exact tunL_heard c s
theorem opn_hear {c : PCf} {s s' : PSt} (h : HearR c s s') (h0 : 0 ≤ s'.opn) : 0 ≤ s.opn := by
  rcases h with rfl | ⟨_, h, _⟩
  · exact h0
  · exact h
theorem mix_next (a b : List Int) (j : Nat) (x : Int) (h : a[j]? = some x) (hl : a.length = b.length) : (a.take j ++ b.drop j).set j x = a.take (j + 1) ++ b.drop (j + 1) := by
  have hj := (List.getElem?_eq_some_iff.1 h).1
  have h2 : b.drop j = (b[j]'(by omega)) :: b.drop (j + 1) := List.drop_eq_getElem_cons (by omega)
  rw [List.take_add_one, h, List.set_append_right _ _ (by rw [List.length_take]; omega)]
  rw [List.length_take, show j - min j a.length = 0 by omega, h2]
  simp only [List.set_cons_zero, Option.toList_some, List.append_assoc, List.singleton_append]
theorem mix_at (a b : List Int) (j : Nat) (hl : a.length = b.length) (hj : j < a.length) : (a.take j ++ b.drop j)[j]? = b[j]? := by
  rw [List.getElem?_append_right (by rw [List.length_take]; omega), List.length_take, List.getElem?_drop, show j + (j - min j a.length) = j by omega]
/-- What lies in memory. -/
def TurW (w : World) (pb g gl gla gt cap : Nat) (A : Option Addr) (n cp : Nat) (c : PCf) (s : PSt) (last tun : List Int) (wx : World) : Prop :=
  PolAt wx g gl cap c s ∧ IntsAt wx gla 2 last ∧ IntsAt wx gt 3 tun ∧ Held wx pb 75 (polC0 A n cp c) ∧ Below w.heap.size w wx
theorem TurW.up {w : World} {pb g gl gla gt cap : Nat} {A : Option Addr} {n cp : Nat} {c : PCf} {s : PSt} {last tun : List Int} {W W' : World} (h : TurW w pb g gl gla gt cap A n cp c s last tun W) (hb : Below W.heap.size W W') : TurW w pb g gl gla gt cap A n cp c s last tun W' := by
  obtain ⟨h1, h2, h3, h4, h5⟩ := h
  exact ⟨h1.up hb, h2.below hb (Held.lt h2), h3.below hb (Held.lt h3), h4.below hb h4.lt, h5.trans (hb.mono h5.size)⟩
theorem TurW.bt {w : World} {pb g gl gla gt cap : Nat} {A : Option Addr} {n cp : Nat} {c : PCf} {s s' : PSt} {last tun : List Int} {W W' : World} (h : TurW w pb g gl gla gt cap A n cp c s last tun W) (hb : Bt g gl W W') (hp : PolAt W' g gl cap c s') (h1 : pb ≠ g ∧ pb ≠ gl) (h2 : gla ≠ g ∧ gla ≠ gl) (h3 : gt ≠ g ∧ gt ≠ gl) (h4 : w.heap.size ≤ g ∧ w.heap.size ≤ gl) : TurW w pb g gl gla gt cap A n cp c s' last tun W' := by
  obtain ⟨k1, k2, k3, k4, k5⟩ := h
  exact ⟨hp, hb.held k2 h2.1 h2.2, hb.held k3 h3.1 h3.2, hb.held k4 h1.1 h1.2, k5.trans (hb.below h4.1 h4.2 k5.size)⟩
theorem TurW.setT {w : World} {pb g gl gla gt cap : Nat} {A : Option Addr} {n cp : Nat} {c : PCf} {s : PSt} {last tun : List Int} {W : World} (h : TurW w pb g gl gla gt cap A n cp c s last tun W) (k : Nat) (v : Int) (h1 : pb ≠ gt) (h2 : gla ≠ gt) (h3 : g ≠ gt ∧ gl ≠ gt) (h4 : w.heap.size ≤ gt) : TurW w pb g gl gla gt cap A n cp c s last (tun.set k v) (W.setCell ⟨gt, k, none⟩ (.int .i64 v)) := by
  obtain ⟨k1, k2, k3, k4, k5⟩ := h
  exact ⟨k1.far h3.1 h3.2 _, Held.far k2 h2 _, k3.set k v, k4.far h1 _, k5.setCell (p := ⟨gt, k, none⟩) h4 _⟩
theorem TurW.setL {w : World} {pb g gl gla gt cap : Nat} {A : Option Addr} {n cp : Nat} {c : PCf} {s : PSt} {last tun : List Int} {W : World} (h : TurW w pb g gl gla gt cap A n cp c s last tun W) (k : Nat) (v : Int) (h1 : pb ≠ gla) (h2 : gt ≠ gla) (h3 : g ≠ gla ∧ gl ≠ gla) (h4 : w.heap.size ≤ gla) : TurW w pb g gl gla gt cap A n cp c s (last.set k v) tun (W.setCell ⟨gla, k, none⟩ (.int .i64 v)) := by
  obtain ⟨k1, k2, k3, k4, k5⟩ := h
  exact ⟨k1.far h3.1 h3.2 _, k2.set k v, Held.far k3 h2 _, k4.far h1 _, k5.setCell (p := ⟨gla, k, none⟩) h4 _⟩
/-- What a round keeps. -/
def TurR (c : PCf) (n i : Nat) (s : PSt) (last : List Int) (B : Int) : Prop :=
  PInv c n s last (i * 156000000000) ∧ PtsB s (3 * i) ∧ (0 ≤ s.opn → B = s.began) ∧ (0 ≤ B ∧ B ≤ i * 156000000000) ∧ (0 ≤ s.began ∧ s.began ≤ i * 156000000000)
theorem turn_mul (c : PCf) (hc : c.ok) (n : Nat) (hn : n ≤ 64) : 0 ≤ c.turn * n ∧ c.turn * n ≤ 6047313952768 := by
  have h := turn_pos c hc
  refine ⟨Int.mul_nonneg (by omega) (by omega), ?_⟩
  have h1 : c.turn * (n : Int) ≤ c.turn * 64 := Int.mul_le_mul_of_nonneg_left (by omega) (by omega)
  omega
/-- A turn began, or none. -/
def TurC1 (c : PCf) (N : Nat) (s : PSt) (last : List Int) (s' : PSt) (last' : List Int) : Prop :=
  ∃ (k : Nat) (x y : PPt) (tl : Int), k < N ∧ s'.opn = k ∧ s'.tries = 1 ∧ s'.began = s'.now ∧ s.l[k]? = some x ∧ s'.l[k]? = some y ∧ y.turns = x.turns + 1 ∧ y.fails = x.fails ∧ last[k]? = some tl ∧ (x.fails < c.fls → s'.now - tl ≤ c.per + c.turn * N) ∧ last' = last.set k s'.now
def TurC2 (s : PSt) (last : List Int) (s' : PSt) (last' : List Int) : Prop :=
  tunL s' = tunL s ∧ (0 ≤ s'.opn → s'.opn = s.opn ∧ s'.began = s.began) ∧ last' = last
theorem StepT.two {c : PCf} {N : Nat} {s : PSt} {last : List Int} {s' : PSt} {sent : Bool} {failed : Int} {last' : List Int} (hl : s.l.length = N) (h : StepT c N s last s' sent failed last') :
    ∃ bg : Bool, (bg = true ∧ TurC1 c N s last s' last') ∨ (bg = false ∧ TurC2 s last s' last') := by
  rcases h with ⟨k, x, y, tl, h1, h2, h3, h4, h5, h6, h7, h8, h9, h10, h11, h12, h13⟩ | ⟨h1, h2, h3⟩
  · exact ⟨true, .inl ⟨rfl, k, x, y, tl, h1, h2, h3, h4, h5, by rw [h6, List.getElem?_set_self (by omega)], h7, h8, h9, h10, h13⟩⟩
  · refine ⟨false, .inr ⟨rfl, ?_, h2, h3⟩⟩
    unfold tunL
    apply List.ext_getElem?
    intro i
    rw [List.getElem?_map, List.getElem?_map]
    exact h1 i
set_option maxHeartbeats 8000000 in
theorem turns23_any (A : Option Addr) (n cp : Nat) (c : PCf) (ps : List PPt) (B : Option Addr) (m cm : Nat) (os : List OpP) (w : World) (hT : LimT w) (hD : PtsI w w.heap.size A n cp ps) (hz : ∀ x ∈ ps, x.due = 0 ∧ x.fails = 0 ∧ x.turns = 0) (hO : HopI w w.heap.size B m cm os) (hok : ∀ o ∈ os, o.ok) :
    Calls Tryd.prog 8 #[.agg (polC0 A n cp c), .slice B m cm] w fun e w' => e = .returned (.bool true) ∧ Below w.heap.size w w' := by
  have hglim : 1 < w.heap.size := by obtain ⟨v, hv⟩ : ∃ v, limL[0]? = some v := ⟨_, rfl⟩; exact World.block_lt_of_cell? w _ (hT 0 v hv)
  have HT := Lib.hid (fun (X : World) (h : Below w.heap.size w X) => hT.up h)
  have HD := Lib.hid (fun (X : World) (h : Below w.heap.size w X) => hD.up h)
  have HO := Lib.hid (fun (X : World) (h : Below w.heap.size w X) => hO.up h)
  have HZ := Lib.hid hz
  have HOK := Lib.hid hok
  have HLEN := Lib.hid hD.1
  have HOLEN := Lib.hid hO.1
  obtain ⟨w1, hw1⟩ : ∃ W, w.alloc (.cells (polC0 A n cp c) 75) = W := ⟨_, rfl⟩
  have hb1 : Below w.heap.size w w1 := by rw [← hw1]; exact (Below.refl _ w).alloc (Nat.le_refl _) _
  have hK1 : Held w1 w.heap.size 75 (polC0 A n cp c) := by rw [← hw1]; exact Held.new w _ _
  have HK1 := Lib.hid hK1
  have HAL := Lib.hid (alive_any w1 (HT.out w1 hb1))
  have hlt1 := hK1.lt
  clear hT hD hz hK1 hO hok
  go_in
  go_wp2_with fail
  refine HAL.out.mono ?_
  rintro e w2 ⟨rfl, b2⟩
  have hb2 := hb1.trans (b2.mono hb1.size)
  have hK2' := HK1.out.below b2 hlt1
  have HK2 := Lib.hid hK2'
  obtain ⟨k0, k1, k2, k3, k4, k5⟩ := polC0_cells hK2'
  have hlt2 := hK2'.lt
  clear hK2' b2
  go_wp2_with fail
  refine (great23_any A n cp c B m cm os w2 (HO.out w2 hb2)).mono ?_
  rintro e w3 ⟨⟨v, rfl, hv⟩, b3⟩
  have hb3 := hb2.trans (b3.mono hb2.size)
  have hK3 := HK2.out.below b3 hlt2
  have HK3 := Lib.hid hK3
  have hlt3 := hK3.lt
  clear k0 k1 k2 k3 k4 k5
  obtain ⟨k0, k1, k2, k3, k4, k5⟩ := polC0_cells hK3
  clear hK3 b3
  rcases hv with ⟨rfl, hv⟩ | rfl
  · have HV := Lib.hid hv
    clear hv
    by_cases hm : 100 < m
    · have hmd : decide ((100 : Int) < (m : Int)) = true := decide_eq_true (by omega)
      go_wp2_with fail
      go_ret
      exact ⟨rfl, hb3⟩
    have hmd : decide ((100 : Int) < (m : Int)) = false := decide_eq_false (by omega)
    go_wp2_with fail
    refine (new_any A n cp c ps w3 (HT.out w3 hb3) (HD.out w3 hb3) HZ.out).mono ?_
    rintro e w4 (⟨rfl, _, b4⟩ | ⟨g, gl, cap, rfl, hA, hP, hg, hgl, b4⟩)
    · have hb4 := hb3.trans (b4.mono hb3.size)
      clear b4
      go_wp2_with fail
      go_ret
      exact ⟨rfl, hb4⟩
    · have HA := Lib.hid hA
      have HP := Lib.hid hP
      have hb4 := hb3.trans (b4.mono hb3.size)
      have hz3 := hb3.size
      have hz4 := b4.size
      have hK4 := HK3.out.below b4 hlt3
      have HK4 := Lib.hid hK4
      have hlt4 := hK4.lt
      clear k0 k1 k2 k3 k4 k5
      obtain ⟨k0, k1, k2, k3, k4, k5⟩ := polC0_cells hK4
      have hgl4 := hP.lt
      have hpc := hA.1
      clear hK4 b4 hP hA
      have hn64 : n ≤ 64 := by have := HA.out.2.2.1; have := HLEN.out; omega
      have hn1 : 1 ≤ n := by have := HA.out.2.1; have := HLEN.out; omega
      have hmk2 := fun W : World => make_ints 3 W n (by omega) 82 Tryd.underlying82 _ rfl rfl rfl (by decide)
      have hmk1 := fun W : World => make_ints 2 W n (by omega) 81 Tryd.underlying81 _ rfl rfl rfl (by decide)
      obtain ⟨w5, hw5⟩ : ∃ Y : World, w4.alloc (.cells (Array.replicate n (.int .i64 0)) 2) = Y := ⟨_, rfl⟩
      obtain ⟨w6, hw6⟩ : ∃ Y : World, w5.alloc (.cells (Array.replicate n (.int .i64 0)) 3) = Y := ⟨_, rfl⟩
      have b5 : Below w4.heap.size w4 w5 := by rw [← hw5]; exact (Below.refl _ _).alloc (Nat.le_refl _) _
      have b6 : Below w5.heap.size w5 w6 := by rw [← hw6]; exact (Below.refl _ _).alloc (Nat.le_refl _) _
      have hz5 : w5.heap.size = w4.heap.size + 1 := by rw [← hw5]; simp
      have hb5 := hb4.trans (b5.mono hb4.size)
      have hb6 := hb5.trans (b6.mono hb5.size)
      have hL5 : IntsAt w5 w4.heap.size 2 (List.replicate n 0) := by rw [← hw5]; exact IntsAt.made _ _ _
      have hT6 : IntsAt w6 w5.heap.size 3 (List.replicate n 0) := by rw [← hw6]; exact IntsAt.made _ _ _
      have k05 : w5.cell? ⟨w.heap.size, 0, none⟩ = some (.slice A n cp) := by rw [← hw5]; exact ((HK4.out.alloc _).cell 0)
      have hlt5 : w.heap.size < w5.heap.size := by omega
      obtain ⟨TT, hTT⟩ : ∃ T, c.turn = T := ⟨_, rfl⟩
      have htp := turn_pos c hpc
      have htm := turn_mul c hpc n hn64
      rw [hTT] at htp htm
      obtain ⟨TN, hTN⟩ : ∃ T : Int, TT * (n : Int) = T := ⟨_, rfl⟩
      rw [hTN] at htm
      obtain ⟨TP, hTP⟩ : ∃ T : Int, c.per + TN = T := ⟨_, rfl⟩
      have hq1 : IntKind.i64.wrap (c.ret + 1) = c.ret + 1 := by have := hpc.2.2.1; simp only [IntKind.wrap_i64]; omega
      have hq2 : IntKind.i64.wrap (c.tmo + c.sil) = c.tmo + c.sil := by have := hpc.1; have := hpc.2.1; simp only [IntKind.wrap_i64]; omega
      have hq3 : IntKind.i64.wrap ((c.ret + 1) * (c.tmo + c.sil)) = TT := by
        rw [show (c.ret + 1) * (c.tmo + c.sil) = TT from hTT]; simp only [IntKind.wrap_i64]; omega
      have hq4 : IntKind.i64.wrap (TT * (n : Int)) = TN := by rw [hTN]; simp only [IntKind.wrap_i64]; omega
      have hq5 : IntKind.i64.wrap (c.per + TN) = TP := by rw [hTP]; have := hpc.2.2.2.1; simp only [IntKind.wrap_i64]; omega
      have HTT := Lib.hid hTT
      have HTN := Lib.hid hTN
      have HTP := Lib.hid hTP
      clear hTT hTN hTP
      rw [hz5] at hT6
      have hst : PInv c n (newS ps) (List.replicate n 0) 0 := by
        have h := PInv.start c hpc ps (fun i x hx => HZ.out x (List.mem_of_getElem? hx))
        rw [HLEN.out] at h
        exact h
      have hPB : PtsB (newS ps) (3 * (0 : Nat)) := fun k x hx => by
        have hm := List.mem_of_getElem? (show ps[k]? = some x from hx)
        have h1 := HZ.out x hm
        have h2 := HA.out.2.2.2 x hm
        exact ⟨h2, by omega, by omega⟩
      have htun : tunL (newS ps) = List.replicate n 0 := by
        apply List.ext_getElem?
        intro i
        show (ps.map PPt.turns)[i]? = _
        rw [List.getElem?_map, List.getElem?_replicate]
        by_cases hi : i < n
        · rw [if_pos hi, List.getElem?_eq_getElem (by rw [HLEN.out]; exact hi)]
          simp [(HZ.out _ (List.getElem_mem _)).2.2]
        · rw [if_neg hi, List.getElem?_eq_none (by rw [HLEN.out]; omega)]; rfl
      have HW0 : Hid (TurW w w.heap.size g gl w4.heap.size (w4.heap.size + 1) cap A n cp c (newS ps) (List.replicate n 0) (tunL (newS ps)) w6) := Lib.hid ⟨(HP.out.up b5).up b6, hL5.below b6 (Held.lt hL5), by rw [htun]; exact hT6, (HK4.out.below b5 hlt4).below b6 hlt5, hb6⟩
      have HR0 : Hid (TurR c n 0 (newS ps) (List.replicate n 0) 0) := Lib.hid ⟨by simpa using hst, hPB, fun h => absurd h (by show ¬ (0 : Int) ≤ -1; decide), by simp, by show (0 : Int) ≤ 0 ∧ (0 : Int) ≤ _; simp⟩
      clear hst hPB hT6 hL5 hb5 hb6 b5 b6 htun
      go_wp2_with fail
      clear hw5 hw6 hw1 hmk1 hmk2 k0 k1 k2 k3 k4 k5 k05 hz5
      go_loopw [12, 72] (fun s12 s72 wx => ∃ (i : Nat) (s : PSt) (last : List Int) (B : Int), s72 = .int .i64 i ∧ s12 = .int .i64 B ∧ i ≤ m ∧ TurR c n i s last B ∧ TurW w w.heap.size g gl w4.heap.size (w4.heap.size + 1) cap A n cp c s last (tunL s) wx) (fun _ s72 _ => m - (intOf s72).toNat)
      case atStart => exact ⟨0, _, _, _, rfl, rfl, Nat.zero_le _, HR0.out, HW0.out⟩
      case round =>
        obtain ⟨i, s, last, Bg, rfl, rfl, hi, ⟨hI, hB, hop, hBg, hbg⟩, hW⟩ := hrel
        by_cases hlt : i < m
        · have hltI : (i : Int) < (m : Int) := by omega
          have hl := hI.ln
          have hnw := hI.nw
          have haw := hI.aw
          have hbm := hI.step hpc hn1 ((i : Int) * 156000000000 + 148000000000) (by omega)
          have hB2 := hB.step c (nextP c s)
          have hbgs := began_step c s (nextP c s)
          have HSTEP := Lib.hid (fun (W : World) (h1 : LimT W) (h2 : PolAt W g gl cap c s) => stepn_any g gl cap c hpc n s last (i * 156000000000) (3 * i) W h1 (by omega) h2 hI (by omega) (by omega) hB (by omega))
          have HNX := Lib.hid (next_any g gl cap c s wr hW.1 (by omega) (by omega) (by have := hpc.1; omega))
          obtain ⟨t, ht⟩ : ∃ t, nextP c s = t := ⟨_, rfl⟩
          rw [ht] at hbm hB2 HSTEP HNX hbgs
          obtain ⟨r, hr⟩ : ∃ r, stepP c s t = r := ⟨_, rfl⟩
          rw [hr] at hbm hB2 HSTEP hbgs
          clear hr ht
          obtain ⟨s', sent, failed⟩ := r
          obtain ⟨htb, hnow, last', hST, hI'⟩ := hbm
          dsimp only at hB2 hnow hI' hST hbgs
          have hopn' : -1 ≤ s'.opn ∧ s'.opn < n := by
            rcases hI'.op with ⟨h, _⟩ | ⟨k, h, h2, _⟩ <;> omega
          have hl' := hI'.ln
          have HW := Lib.hid hW
          have HI' := Lib.hid hI'
          have HST := Lib.hid hST
          have HB2 := Lib.hid hB2
          have HI := Lib.hid hI
          have HOP := Lib.hid hop
          have hret := hpc.2.2.1
          have hwrr : IntKind.i64.wrap (c.ret + 1) = c.ret + 1 := by simp only [IntKind.wrap_i64]; omega
          have hwri : IntKind.i64.wrap ((i : Int) + 1) = (i : Int) + 1 := by simp only [IntKind.wrap_i64]; omega
          have hbr := hW.2.2.2.2
          have HNOW := Lib.hid hnow
          clear hop hW hI hB hB2 hI' hnow hST
          go_wp2_with fail
          refine HNX.out.mono ?_
          rintro e w7 ⟨rfl, b7⟩
          have hb7 := hbr.trans (b7.mono hbr.size)
          have HW7 := Lib.hid (HW.out.up b7)
          clear b7
          go_wp2_with fail
          refine (HSTEP.out w7 (HT.out w7 hb7) HW7.out.1).mono ?_
          rintro e w8 ⟨As, ns, cs, rfl, hsent, hnsent, hP8, b8⟩
          dsimp only at hP8
          have HW8 := Lib.hid (HW7.out.bt b8 hP8 (by omega) (by omega) (by omega) (by omega))
          clear hsent hnsent hP8 b8
          go_wp2_with fail
          refine (askingn_any g gl cap c s' w8 HW8.out.1 (by omega) hopn'.1).mono ?_
          rintro e w9 ⟨rfl, n9, hw9⟩
          have HW9 := Lib.hid (HW8.out.up (drewN_below hw9))
          obtain ⟨kk, hkk⟩ : ∃ kk, s'.opn = kk := ⟨_, rfl⟩
          obtain ⟨tv, htv⟩ : ∃ tv, triV s' = tv := ⟨_, rfl⟩
          rw [hkk, htv]
          rw [hkk] at hopn'
          have HKK := Lib.hid hkk
          have HTV := Lib.hid htv
          clear hkk htv hw9
          obtain ⟨bg, hbgc⟩ := HST.out.two (by have := HI.out.ln; exact this)
          have HBG := Lib.hid hbgc
          have htI := IntKind.wrap_i64
          clear hbgc htI
          have hl9 := HW9.out.2.2.2.2.size
          have hgt9 := Held.lt HW9.out.2.2.1
          have hgl9 := Held.lt HW9.out.2.1
          go_upto_region 20 with fail
          go_cut [109] from 73 to 192 (fun s109 wx => s109 = .bool bg ∧ TurW w w.heap.size g gl w4.heap.size (w4.heap.size + 1) cap A n cp c s' last (tunL s) wx)
          case first =>
            rcases HBG.out with ⟨rfl, k, x, y, tl, e1, e2, e3, e4, e5, e6, e7, e8, e9, e10, e11⟩ | ⟨rfl, e1, e2, e3⟩
            · obtain rfl : kk = (k : Int) := HKK.out.symm.trans e2
              obtain rfl : tv = 1 := by rw [← HTV.out]; unfold triV; rw [if_neg (by omega), e3]
              have hc9 := HW9.out.2.2.1.cell (tunL_at e5)
              have hgtd : decide (x.turns < y.turns) = true := decide_eq_true (by omega)
              have HTU := Lib.hid (fun (q : Nat) => turns_any g gl cap c s' k y (w9.drewN q) (HW9.out.1.drewN q) e6)
              have hkI : (k : Int) < (n : Int) := by omega
              clear e1 e2 e3 e4 e5 e6 e7 e8 e9 e10 e11
              go_quiet ((go_at_call 38; exact quiet_left (HTU.out _)))
              go_wp2_with fail
              go_meet
              case rel => exact ⟨rfl, HW9.out.up (below_drewN (Below.refl _ _) _)⟩
            · by_cases h0 : kk < 0
              · have hd0 : decide (0 ≤ kk) = false := decide_eq_false (by omega)
                clear h0 e1 e2 e3
                go_quiet (fail)
                go_wp2_with fail
                go_meet
                case rel => exact ⟨rfl, HW9.out.up (below_drewN (Below.refl _ _) _)⟩
              · obtain ⟨k, rfl⟩ : ∃ k : Nat, kk = k := ⟨kk.toNat, by omega⟩
                have hkI : (k : Int) < (n : Int) := by omega
                cases h1 : (tv == 1)
                · clear e1 e2 e3
                  go_quiet (fail)
                  go_wp2_with fail
                  go_meet
                  case rel => exact ⟨rfl, HW9.out.up (below_drewN (Below.refl _ _) _)⟩
                · obtain ⟨y, hy⟩ : ∃ y, s'.l[k]? = some y := ⟨_, List.getElem?_eq_getElem (by omega)⟩
                  have hc9 := HW9.out.2.2.1.cell (show (tunL s)[k]? = some y.turns by rw [← e1]; exact tunL_at hy)
                  have hgtd : decide (y.turns < y.turns) = false := decide_eq_false (by omega)
                  have HTU := Lib.hid (fun (q : Nat) => turns_any g gl cap c s' k y (w9.drewN q) (HW9.out.1.drewN q) hy)
                  clear e1 e2 e3 hy
                  go_quiet ((go_at_call 38; exact quiet_left (HTU.out _)))
                  go_wp2_with fail
                  go_meet
                  case rel => exact ⟨rfl, HW9.out.up (below_drewN (Below.refl _ _) _)⟩
          case rest =>
            obtain ⟨rfl, hWc⟩ := hcut
            have HWc := Lib.hid hWc
            clear hWc
            have hMb : t ≤ (i : Int) * 156000000000 + 4294967296 := htb.2
            go_upto_if 109 with fail
            go_cut [12] from 73 to 192 (fun s12 wx => ∃ B' : Int, s12 = .int .i64 B' ∧ (0 ≤ kk → B' = s'.began) ∧ (0 ≤ B' ∧ B' ≤ (i : Int) * 156000000000 + 4294967296) ∧ TurW w w.heap.size g gl w4.heap.size (w4.heap.size + 1) cap A n cp c s' last' (tunL s) wx)
            case first =>
              rcases HBG.out with ⟨rfl, k, x, y, tl, e1, e2, e3, e4, e5, e6, e7, e8, e9, e10, e11⟩ | ⟨rfl, e1, e2, e3⟩
              · obtain rfl : kk = (k : Int) := HKK.out.symm.trans e2
                have hkI : (k : Int) < (n : Int) := by omega
                have htl := HI.out.lt k tl e9
                have hwt : IntKind.i64.wrap (t - tl) = t - tl := by simp only [IntKind.wrap_i64]; omega
                have HOF := Lib.hid (Offline_any g gl cap c s' k y wc HWc.out.1 e6)
                have hle : offB c y = false → decide (TP < t - tl) = false := fun q => decide_eq_false (by
                  have q1 : x.fails < c.fls := by rw [← e8]; unfold offB at q; have := of_decide_eq_false q; omega
                  have := e10 q1
                  rw [HNOW.out, HTT.out, HTN.out, HTP.out] at this
                  omega)
                obtain ⟨of, hof⟩ : ∃ of, offB c y = of := ⟨_, rfl⟩
                rw [hof] at HOF hle
                have HE := Lib.hid (And.intro e4 (And.intro e9 e11))
                clear e1 e2 e3 e4 e5 e6 e7 e8 e9 e10 e11 hof
                cases of
                · have hled := hle rfl
                  clear hle
                  go_wp2_with fail
                  refine HOF.out.mono ?_
                  rintro e w11 ⟨rfl, n11, hw11⟩
                  have HW11 := Lib.hid (HWc.out.up (drewN_below hw11))
                  have hc11 := HW11.out.2.1.cell HE.out.2.1
                  have hf11 := HW11.out.2.1.frozen k
                  have hl11 := Held.lt HW11.out.2.1
                  clear hw11
                  go_wp2_with fail
                  go_meet
                  case rel => exact ⟨t, rfl, fun _ => (HE.out.1.trans HNOW.out).symm, by omega, by
                    have q := HW11.out.setL k t (by omega) (by omega) (by omega) (by omega)
                    rw [HE.out.2.2, HNOW.out]
                    exact q⟩
                · clear hle
                  go_wp2_with fail
                  refine HOF.out.mono ?_
                  rintro e w11 ⟨rfl, n11, hw11⟩
                  have HW11 := Lib.hid (HWc.out.up (drewN_below hw11))
                  have hc11 := HW11.out.2.1.cell HE.out.2.1
                  have hf11 := HW11.out.2.1.frozen k
                  have hl11 := Held.lt HW11.out.2.1
                  clear hw11
                  go_wp2_with fail
                  go_meet
                  case rel => exact ⟨t, rfl, fun _ => (HE.out.1.trans HNOW.out).symm, by omega, by
                    have q := HW11.out.setL k t (by omega) (by omega) (by omega) (by omega)
                    rw [HE.out.2.2, HNOW.out]
                    exact q⟩
              · have HE := Lib.hid (And.intro e2 e3)
                clear e1 e2 e3
                go_wp2_with fail
                go_meet
                case rel => exact ⟨Bg, rfl, fun q => by
                  have q1 := HE.out.1 (by rw [HKK.out]; exact q)
                  rw [q1.2]
                  exact HOP.out (by rw [← q1.1, HKK.out]; exact q), by omega, by rw [HE.out.2]; exact HWc.out⟩
            case rest =>
              obtain ⟨B', rfl, hBk, hBb, hWd⟩ := hcut
              have HWd := Lib.hid hWd
              have hld := hWd.2.2.2.2.size
              have htl := tunL_len s
              have htl' := tunL_len s'
              have HBK := Lib.hid hBk
              clear hWd hBk
              go_wp2_with fail
              go_loopw [131] (fun s131 wx => ∃ j : Nat, j ≤ n ∧ s131 = .int .i64 j ∧ TurW w w.heap.size g gl w4.heap.size (w4.heap.size + 1) cap A n cp c s' last' ((tunL s').take j ++ (tunL s).drop j) wx) (fun s131 _ => n - (intOf s131).toNat)
              case atStart => exact ⟨0, Nat.zero_le _, rfl, by simpa using HWd.out⟩
              case round =>
                obtain ⟨j, hj, rfl, hWj⟩ := hrel
                by_cases hjn : j < n
                · have hjI : (j : Int) < (n : Int) := by omega
                  obtain ⟨x, hx⟩ : ∃ x, s'.l[j]? = some x := ⟨_, List.getElem?_eq_getElem (by omega)⟩
                  obtain ⟨v0, hv0⟩ : ∃ v, (tunL s)[j]? = some v := ⟨_, List.getElem?_eq_getElem (by omega)⟩
                  obtain ⟨tl, htl2⟩ : ∃ v, last'[j]? = some v := ⟨_, List.getElem?_eq_getElem (by have := HI'.out.la; omega)⟩
                  have hcj := hWj.2.2.1.cell ((mix_at (tunL s') (tunL s) j (by omega) (by omega)).trans hv0)
                  have hfj := hWj.2.2.1.frozen j
                  have hlj := Held.lt hWj.2.2.1
                  have HTU := Lib.hid (turns_any g gl cap c s' j x _ hWj.1 hx)
                  have hmix := mix_next (tunL s') (tunL s) j x.turns (tunL_at hx) (by omega)
                  have hW2 := hWj.setT j x.turns (by omega) (by omega) (by omega) (by omega)
                  rw [hmix] at hW2
                  obtain ⟨w12, hw12⟩ : ∃ Y : World, wr.setCell ⟨w4.heap.size + 1, j, none⟩ (.int .i64 x.turns) = Y := ⟨_, rfl⟩
                  rw [hw12] at hW2
                  have HOF := Lib.hid (Offline_any g gl cap c s' j x w12 hW2.1 hx)
                  have htb2 := HI'.out.lt j tl htl2
                  have hwt : IntKind.i64.wrap (t - tl) = t - tl := by simp only [IntKind.wrap_i64]; omega
                  have hwj : IntKind.i64.wrap ((j : Int) + 1) = (j : Int) + 1 := by simp only [IntKind.wrap_i64]; omega
                  have hcl := hW2.2.1.cell htl2
                  have hll := Held.lt hW2.2.1
                  obtain ⟨of, hof⟩ : ∃ of, offB c x = of := ⟨_, rfl⟩
                  have hsn : (j : Int) ≠ kk → of = false → decide (TP < t - tl) = false := fun q1 q2 => decide_eq_false (by
                    rw [← hof] at q2
                    have q3 : x.fails < c.fls := by unfold offB at q2; have := of_decide_eq_false q2; omega
                    have := HI'.out.soon hpc j x tl hx htl2 q3 (by rw [HKK.out]; exact fun e => q1 e.symm)
                    rw [HNOW.out, HTT.out, HTN.out, HTP.out] at this
                    omega)
                  rw [hof] at HOF
                  have HW2 := Lib.hid hW2
                  clear hW2 hmix hx hv0 htl2 hof hWj
                  by_cases hjk : (j : Int) = kk
                  · have hjb : ((j : Int) != kk) = false := by simp [hjk]
                    clear hsn hjk
                    go_wp2_with fail
                    refine HTU.out.mono ?_
                    rintro e w11 ⟨rfl, rfl⟩
                    go_wp2_with fail
                    go_roundw
                    case rel => exact ⟨j + 1, by omega, by go_num, HW2.out⟩
                    case measure => simp [intOf]; omega
                  · have hjb : ((j : Int) != kk) = true := by simp [hjk]
                    have hsn2 := hsn hjk
                    clear hsn hjk
                    go_wp2_with fail
                    refine HTU.out.mono ?_
                    rintro e w11 ⟨rfl, rfl⟩
                    go_wp2_with fail
                    refine HOF.out.mono ?_
                    rintro e w13 ⟨rfl, n13, hw13⟩
                    have HW13 := Lib.hid (HW2.out.up (drewN_below hw13))
                    have hcl13 : w13.cell? ⟨w4.heap.size, j, none⟩ = some (.int .i64 tl) := by rw [hw13]; exact hcl
                    clear hw13
                    cases of
                    · have hsd := hsn2 rfl
                      clear hsn2
                      go_wp2_with fail
                      go_roundw
                      case rel => exact ⟨j + 1, by omega, by go_num, HW13.out⟩
                      case measure => simp [intOf]; omega
                    · clear hsn2
                      go_wp2_with fail
                      go_roundw
                      case rel => exact ⟨j + 1, by omega, by go_num, HW13.out⟩
                      case measure => simp [intOf]; omega
                · obtain rfl : j = n := by omega
                  rw [List.take_of_length_le (by omega), List.drop_eq_nil_of_le (by omega), List.append_nil] at hWj
                  have HWj := Lib.hid hWj
                  have hlj := hWj.2.2.2.2.size
                  have hKj := hWj.2.2.2.1
                  obtain ⟨k0, k1, k2, k3, k4, k5⟩ := polC0_cells hKj
                  have hpbl := hKj.lt
                  have hbj := hWj.2.2.2.2
                  obtain ⟨o, ho⟩ : ∃ o, os[i]? = some o := ⟨_, List.getElem?_eq_getElem (by have := HOLEN.out; omega)⟩
                  have hwt : IntKind.i64.wrap (t - B') = t - B' := by simp only [IntKind.wrap_i64]; omega
                  clear hWj hKj
                  go_upto_region 32 with fail
                  go_cut [175] from 73 to 192 (fun s175 wx => s175 = .bool false ∧ wx = wr)
                  case first =>
                    by_cases h0 : kk < 0
                    · have hd0 : decide (0 ≤ kk) = false := decide_eq_false (by omega)
                      clear h0
                      go_wp2_with fail
                      go_meet
                      case rel => exact ⟨rfl, rfl⟩
                    · have hd0 : decide (0 ≤ kk) = true := decide_eq_true (by omega)
                      have q := HI'.out.turns hpc (by rw [HKK.out]; omega)
                      rw [HNOW.out, HTT.out, ← HBK.out (by omega)] at q
                      have hq1 : decide (TT < t - B') = false := decide_eq_false (by omega)
                      have htv2 : tv = s'.tries := by rw [← HTV.out]; unfold triV; rw [if_neg (by rw [HKK.out]; omega)]
                      have hq2 : decide (c.ret + 1 < tv) = false := decide_eq_false (by omega)
                      clear h0 q htv2
                      go_wp2_with fail
                      go_meet
                      case rel => exact ⟨rfl, rfl⟩
                  case rest =>
                    obtain ⟨rfl, rfl⟩ := hcut
                    obtain ⟨go, oo, rfl, hgo, hco⟩ := (HO.out wc hbj).2.2.2 (by omega)
                    obtain ⟨Ap, np, cpp, o0, o1, o2, o3, o4, oS⟩ := hco i o ho
                    have HOI := Lib.hid ho
                    have HOS := Lib.hid oS
                    clear hco ho oS
                    have hR' : Hid (∀ (s'' : PSt), HearR c s' s'' → TurR c j (i + 1) s'' last' B' ∧ tunL s'' = tunL s') := Lib.hid (fun s'' hr => by
                      have e1 := began_hear c s' s'' hr
                      have e2 := (HB2.out.hear c hr)
                      have e3 := HI'.out.hear hpc hr (((i + 1 : Nat) : Int) * 156000000000) (by omega)
                      refine ⟨⟨e3, e2.grow (by omega), fun q => ?_, by omega, ?_⟩, tunL_hear hr⟩
                      · rw [e1]
                        exact HBK.out (by rw [← HKK.out]; exact opn_hear hr q)
                      · rw [e1]
                        rcases hbgs with q | q <;> omega)
                    by_cases hk : 0 < o.kind
                    · have hkd : decide (0 < o.kind) = true := decide_eq_true hk
                      have HFR := Lib.hid (fun (W : World) (h : Below wc.heap.size wc W) => frame_any A j cp c ps kk o Ap np cpp W (HD.out W (hbj.trans (h.mono hbj.size))) (HOS.out.up h) (HOK.out o (List.mem_of_getElem? HOI.out)) (by have := HOS.out.1; have := HV.out.2.2 o (List.mem_of_getElem? HOI.out); omega) HA.out.2.2.2 hn64)
                      have HHE : Hid (∀ (W : World) (u : Int) (B : Option Addr) (m cm : Nat) (b : List Int), Below wc.heap.size wc W → SlI W W.heap.size .u8 B m cm b → Byte8 b → m ≤ 1000 → Calls Tryd.prog 40 #[.pointer (some ⟨g, 0, none⟩), .int .i64 t, .agg #[.int .i64 u, .slice B m cm]] W (HearN W g gl cap c s')) := Lib.hid (fun W u B m cm b h hs h8 hm => by
                        have q := hearn_any g gl cap c hpc j s' last' ((i : Int) * 156000000000 + 148000000000) (3 * i + 2) u B m cm b W (HT.out W (hbj.trans (h.mono hbj.size))) (by omega) (HWj.out.up h).1 HI'.out (by omega) (by omega) HB2.out (by omega) (by rcases hbgs with q | q <;> omega) hs h8 hm
                        rw [HNOW.out] at q
                        exact q)
                      go_upto_region 35 with fail
                      go_region_with (first
                        | (go_at_call 41; refine (HFR.out _ (by repeat first | exact Below.refl _ _ | apply Below.drew | apply below_drewN)).mono ?_; rintro e wf ⟨uf, Bf, mf, cf, bf, rfl, hsf, hbf8, hmf, bwf0⟩; have bwf : Below wc.heap.size wc wf := Below.trans (by repeat first | exact Below.refl _ _ | apply Below.drew | apply below_drewN) bwf0)
                        | (go_at_call 40; refine (HHE.out _ _ _ _ _ _ (by repeat first | exact bwf | apply Below.drew | apply below_drewN) hsf hbf8 hmf).mono ?_; rintro e wh ⟨p1, v1, is1, s'', rfl, hP2, hb2, hr2⟩))
                      all_goals (
                        obtain ⟨hf1, hf2⟩ := hR'.out s'' hr2
                        have hW9 : TurW w w.heap.size g gl w4.heap.size (w4.heap.size + 1) cap A j cp c s'' last' (tunL s') wh := TurW.bt (by first | exact HWj.out.up bwf | exact HWj.out.up bwf.drew | exact HWj.out.up (below_drewN bwf _)) hb2 hP2 (by omega) (by omega) (by omega) (by omega)
                        clear hb2 hP2 hr2
                        go_wp2_with fail
                        go_roundw
                        case rel => exact ⟨i + 1, s'', last', B', by go_num, rfl, by omega, hf1, by rw [hf2]; exact hW9⟩
                        case measure => simp [intOf]; omega)
                    · have hkd : decide (0 < o.kind) = false := decide_eq_false hk
                      have hfin := hR'.out s' (.inl rfl)
                      go_wp2_with fail
                      go_roundw
                      case rel => exact ⟨i + 1, s', last', B', by go_num, rfl, by omega, hfin.1, HWj.out⟩
                      case measure => simp [intOf]; omega
        · obtain rfl : i = m := by omega
          go_wp2_with fail
          go_ret
          exact ⟨rfl, hW.2.2.2.2⟩
  · go_wp2_with fail
    go_ret
    exact ⟨rfl, hb3⟩
end Go.Proofs.YtcipleanckeoaaaDoor
