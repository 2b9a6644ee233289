/- Find finds each block of an image where it stands, and no more: the law, walked. -/
import Derived.Test.YtnnknnaimabehaaModAlive
import Derived.Test.YtnnknnaimabehaaModFindP
import Derived.Test.YtnnknnaimabehaaModRow
namespace Go.Proofs.Ytnnknnaimabehaa
open Go.RowKit
set_option linter.unusedVariables false
set_option maxRecDepth 100000
def U16 (l : List Int) : Prop := ∀ x ∈ l, 0 ≤ x ∧ x < 65536
theorem wordsX_u16 (v m : Int) : U16 (wordsX v m 1) := by
  intro x hx
  unfold wordsX at hx
  split at hx
  · exact bigW_in v m x (by simpa [turnL] using hx)
  · cases hx
theorem txtL_u16 (s : ByteArray) (m i : Nat) : U16 (txtL s m i) := by
  intro x hx
  unfold txtL at hx
  obtain ⟨k, _, rfl⟩ := List.mem_map.1 hx
  have h1 := chr_in s (2 * k)
  have h2 := chr_in s (2 * k + 1)
  unfold txtAt
  split
  · omega
  · split <;> omega
theorem ptWords_u16 (p : PtP) (v : ValP) (l : List Int) (h : ptWords p v = some l) : U16 l := by
  unfold ptWords at h
  split at h
  · unfold textP at h
    split at h
    · injection h with h
      rw [← h]
      exact txtL_u16 _ _ _
    · cases h
  · split at h
    · unfold signedP someW at h
      split at h
      · injection h with h
        rw [← h]
        exact wordsX_u16 _ _
      · cases h
    · unfold plainP someW at h
      split at h
      · injection h with h
        rw [← h]
        exact wordsX_u16 _ _
      · cases h
theorem u16_append {a b : List Int} (ha : U16 a) (hb : U16 b) : U16 (a ++ b) := fun x hx => (List.mem_append.1 hx).elim (ha x) (hb x)
theorem seqW_u16 (ps : List PtP) (vs : List ValP) (k : Nat) (L : List Int) (h : seqW ps vs k = some L) : U16 L := by
  induction k generalizing L with
  | zero =>
    simp [seqW] at h
    subst h
    intro x hx
    cases hx
  | succ k ih =>
    cases hL : seqW ps vs k with
    | none => simp [seqW, hL] at h
    | some M =>
      cases hp : ps[k]? with
      | none => simp [seqW, hL, hp] at h
      | some p =>
        cases hv : vs[k]? with
        | none => simp [seqW, hL, hp, hv] at h
        | some v =>
          rw [seqW_next ps vs k M p v hL hp hv] at h
          cases hw : ptWords p v with
          | none => rw [hw] at h; cases h
          | some l =>
            rw [hw] at h
            simp at h
            rw [← h]
            exact u16_append (ih M hL) (ptWords_u16 p v l hw)
theorem partB_u16 (b : BlkP) (x : List Int) (h : partB b = some x) : U16 x := by
  unfold partB at h
  cases hm : blkB b with
  | none => rw [hm] at h; cases h
  | some m =>
    rw [hm] at h
    simp only [Option.map_some, Option.some.injEq] at h
    obtain ⟨⟨h1, h2⟩, h3, _, _⟩ := blk_in b m hm
    rw [← h]
    refine u16_append ?_ ?_
    · intro x hx
      simp only [List.mem_cons, List.not_mem_nil, or_false] at hx
      rcases hx with rfl | rfl <;> omega
    · unfold blkB blkW at hm
      split at hm
      · exact seqW_u16 _ _ _ _ hm
      · cases hm
theorem partsP_u16 (bs : List BlkP) (y : List Int) (h : partsP bs = some y) : U16 y := by
  induction bs generalizing y with
  | nil => simp [partsP] at h; subst h; intro x hx; cases hx
  | cons b r ih =>
    simp only [partsP] at h
    cases hb : partB b with
    | none => rw [hb] at h; cases h
    | some x =>
      cases hr : partsP r with
      | none => rw [hb, hr] at h; cases h
      | some z =>
        rw [hb, hr] at h
        injection h with h
        rw [← h]
        exact u16_append (partB_u16 b x hb) (ih z hr)
theorem image_u16 (bs : List BlkP) (X : List Int) (hX : imageP bs = some X) : U16 X := by
  obtain ⟨y, hy, rfl, _⟩ := image_some bs X hX
  refine u16_append (u16_append ?_ (partsP_u16 bs y hy)) ?_
  all_goals
    intro x hx
    simp only [List.mem_cons, List.not_mem_nil, or_false] at hx
    rcases hx with rfl | rfl <;> omega
theorem cnt_hit (bs : List BlkP) (j : Nat) (b : BlkP) (id : Int) (h : bs[j]? = some b) (e : b.id = id) : cntN (bs.take (j + 1)) id = cntN (bs.take j) id + 1 := by
  rw [cntN_next bs j b id h, if_pos e]
theorem cnt_miss (bs : List BlkP) (j : Nat) (b : BlkP) (id : Int) (h : bs[j]? = some b) (e : b.id ≠ id) : cntN (bs.take (j + 1)) id = cntN (bs.take j) id := by
  rw [cntN_next bs j b id h, if_neg e, Nat.add_zero]
theorem totN_take (bs : List BlkP) (j : Nat) : totN (bs.take j) ≤ totN bs := by
  conv => rhs; rw [← List.take_append_drop j bs]
  simp only [totN, List.map_append, List.sum_append]
  omega
set_option maxHeartbeats 4000000 in
theorem law_finds (A : Option Addr) (n c : Nat) (bs : List BlkP) (w : World) (hB : BkI w w.heap.size A n c bs) (hs : partsN bs ≤ 1048576) :
    Calls Try.prog 3 #[.slice A n c] w fun e w' => e = .returned (.bool true) ∧ Below w.heap.size w w' := by
  have hl := hB.1
  have hnp := partsN_len bs
  have HBK := Lib.hid (fun (X : World) (h : Below w.heap.size w X) => hB.up h)
  have HL := Lib.hid hl
  have HNP := Lib.hid hnp
  have HS := Lib.hid hs
  clear hB hl hnp hs
  go_in
  go_wp2_with fail
  refine (alive_mod w).mono ?_
  rintro e w1 ⟨rfl, hb1⟩
  go_wp2_with fail
  refine (mgreat_any A n c bs w1 (HBK.out w1 hb1) HS.out).mono ?_
  rintro e w2 ⟨rfl, m2, hw2⟩
  have hb2 : Below w.heap.size w w2 := by rw [hw2]; exact below_drewN hb1 _
  clear hw2
  by_cases h3 : 3000 < partsN bs
  · rw [if_pos h3]
    clear h3
    go_wp2_with fail
    go_ret
    exact ⟨rfl, hb2⟩
  · rw [if_neg h3]
    have hn3 : n ≤ 3000 := by have h1 := HL.out; have h2 := HNP.out; omega
    clear h3
    have HI := Lib.hid (image_own A n c bs (by omega) w2 (HBK.out w2 hb2))
    obtain ⟨o, ho⟩ : ∃ o, imageP bs = o := ⟨_, rfl⟩
    rw [ho] at HI
    have HO := Lib.hid ho
    clear ho
    go_wp2_with fail
    refine HI.out.mono ?_
    rintro e w3 ⟨A3, n3, c3, er, rfl, her, hs3, hb3⟩
    have hb3w := hb2.trans (hb3.mono hb2.size)
    cases o with
    | none =>
      obtain rfl : er = 260 := her
      clear hs3
      go_wp2_with fail
      go_ret
      exact ⟨rfl, hb3w⟩
    | some X =>
      obtain rfl : er = 0 := her
      have hs3 := hs3 X rfl
      have HX := Lib.hid (fun (W : World) (h : Below w3.heap.size w3 W) => hs3.up h)
      have HU := Lib.hid (image_u16 bs X HO.out)
      have hX9 : n3 ≤ 9000 := by
        obtain ⟨y, _, hy, hyl⟩ := image_some bs X HO.out
        have h1 := hs3.1
        rw [hy] at h1
        simp at h1
        omega
      have hT : totN bs + 4 ≤ 9000 := by
        obtain ⟨y, h1, _, hyl⟩ := image_some bs X HO.out
        rw [partsP_len bs y h1] at hyl
        exact hyl
      have HT := Lib.hid hT
      clear hs3 hT HI
      go_wp2
      go_loopw [6, 7] (fun s6 s7 wx => ∃ (i : Nat), i ≤ n ∧ s7 = .int .i64 i ∧ s6 = .int .i64 ((4 + totN (bs.take i) : Nat) : Int) ∧ Below w3.heap.size w3 wx) (fun _ s7 _ => n - (intOf s7).toNat)
      case atStart => exact ⟨0, Nat.zero_le _, rfl, by simp [totN], Below.refl _ _⟩
      case round =>
        obtain ⟨i, hi, rfl, rfl, hbr⟩ := hrel
        by_cases hlt : i < n
        · obtain ⟨⟨id, ps, vs⟩, hb⟩ : ∃ b, bs[i]? = some b := ⟨_, List.getElem?_eq_getElem (by rw [HL.out]; exact hlt)⟩
          have hbrw := hb3w.trans (hbr.mono hb3w.size)
          obtain ⟨g, off, rfl, hg, hc⟩ := (HBK.out w (Below.refl _ _)).2.2.2.2 (by omega)
          have hC : ∀ (W : World), Below w.heap.size w W → ∀ k b, bs[k]? = some b → W.cell? ⟨g, off + k * 3, none⟩ = some (.int .i64 b.id) := fun W hW k b hk => by
            obtain ⟨_, _, _, _, _, _, k0, _⟩ := hc k b hk
            exact (hW.cell (p := ⟨g, off + k * 3, none⟩) hg).trans k0
          have HC := Lib.hid hC
          clear hc hC
          obtain ⟨g', off', e', hg', hc'⟩ := (HBK.out wr hbrw).2.2.2.2 (by omega)
          injection e' with e'
          injection e' with e1 e2
          subst e1 e2
          obtain ⟨Ap, np, cp, Av, nv, cv, c0, c1, c2, hPt, _, _⟩ := hc' i _ hb
          dsimp only at c0 hPt
          have HBI := Lib.hid hb
          obtain ⟨hdf, hlp, hll⟩ := image_blk bs X i _ HO.out hb
          dsimp only at hdf hlp
          have HLN := Lib.hid (mlen_any id Ap np cp ps wr hPt)
          rw [hdf, hlp] at HLN
          obtain ⟨N, hN⟩ : ∃ N, lenN ⟨id, ps, vs⟩ = N := ⟨_, rfl⟩
          have htn := totN_next bs i _ hb
          have ht1 := totN_take bs (i + 1)
          have ht2 := HT.out
          rw [hN] at HLN hll htn
          have HN := Lib.hid hN
          obtain ⟨T, hTT⟩ : ∃ T, totN (bs.take i) = T := ⟨_, rfl⟩
          rw [hTT] at htn ⊢
          have htb : T + N ≤ 9000 := by omega
          have HTN := Lib.hid htn
          have HTT := Lib.hid hTT
          have HLN2 : Hid (Calls Try.prog 11 #[.agg #[.int .i64 id, .slice Ap np cp]] wr fun e w' => e = .returned (.tuple #[.int .i64 (N : Int), .int .i64 0]) ∧ Below wr.heap.size wr w') := Lib.hid (by simpa using HLN.out)
          clear hc' hPt hb hdf hlp htn hTT hN HLN ht1 ht2
          go_wp2_with fail
          refine HLN2.out.mono ?_
          rintro e w4 ⟨rfl, hb4⟩
          have hb4x := hbr.trans (hb4.mono hbr.size)
          clear c0 c1 c2
          go_wp2_with fail
          go_loopw [10, 11] (fun s10 s11 wx => ∃ (k : Nat), k ≤ i ∧ s11 = .int .i64 k ∧ s10 = .int .i64 ((cntN (bs.take k) id : Nat) : Int) ∧ Below w3.heap.size w3 wx) (fun _ s11 _ => i - (intOf s11).toNat)
          case atStart => exact ⟨0, Nat.zero_le _, rfl, by simp [cntN], hb4x⟩
          case round =>
            obtain ⟨k, hk, rfl, rfl, hbk⟩ := hrel
            by_cases hkt : k < i
            · obtain ⟨⟨id2, ps2, vs2⟩, hb2⟩ : ∃ b, bs[k]? = some b := ⟨_, List.getElem?_eq_getElem (by rw [HL.out]; omega)⟩
              have hbkw := hb3w.trans (hbk.mono hb3w.size)
              have c0 := HC.out wr hbkw k _ hb2
              have c1 := HC.out wr hbkw i _ HBI.out
              dsimp only at c0 c1
              have hcl := cntN_take bs k id
              have hkn : k < n := by omega
              have hki : (k : Int) < (i : Int) := by omega
              by_cases hid : id2 = id
              · have hh := cnt_hit bs k _ id hb2 hid
                have t1 : (id2 == id) = true := by simpa using hid
                obtain ⟨C, hCC⟩ : ∃ C, cntN (bs.take k) id = C := ⟨_, rfl⟩
                rw [hCC] at hh hcl ⊢
                have HH := Lib.hid hh
                clear hb2 hid hh hCC
                go_wp2_with fail
                go_quiet (fail)
                go_wp2_with fail
                go_roundw
                case rel => exact ⟨k + 1, by omega, by go_num, by rw [HH.out]; go_num, below_drewN hbk _⟩
                case measure => simp [intOf]; omega
              · have hh := cnt_miss bs k _ id hb2 hid
                have t1 : (id2 == id) = false := by simpa using hid
                obtain ⟨C, hCC⟩ : ∃ C, cntN (bs.take k) id = C := ⟨_, rfl⟩
                rw [hCC] at hh hcl ⊢
                have HH := Lib.hid hh
                clear hb2 hid hh hCC
                go_wp2_with fail
                go_quiet (fail)
                go_wp2_with fail
                go_roundw
                case rel => exact ⟨k + 1, by omega, by go_num, by rw [HH.out], below_drewN hbk _⟩
                case measure => simp [intOf]; omega
            · obtain rfl : k = i := by omega
              have hbkw := hb3w.trans (hbk.mono hb3w.size)
              have c0 := HC.out wr hbkw k _ HBI.out
              dsimp only at c0
              have hcl := cntN_take bs k id
              have hfy := find_yes bs X k _ HO.out HBI.out
              dsimp only at hfy
              obtain ⟨C, hCC⟩ : ∃ C, cntN (bs.take k) id = C := ⟨_, rfl⟩
              rw [hCC] at hcl hfy ⊢
              have HF := Lib.hid (find_own A3 n3 c3 X id (C : Int) (by omega) (by omega) wr (HX.out wr hbk) HU.out)
              rw [hfy, HTT.out, HN.out] at HF
              clear hfy hCC
              go_wp2_with fail
              refine HF.out.mono ?_
              rintro e w' ⟨rfl, rfl⟩
              clear HF c0
              go_wp2_with fail
              go_loopw [15, 16] (fun s15 s16 wx => ∃ (q : Nat), q ≤ n ∧ s16 = .int .i64 q ∧ s15 = .int .i64 ((cntN (bs.take q) id : Nat) : Int) ∧ Below w3.heap.size w3 wx) (fun _ s16 _ => n - (intOf s16).toNat)
              case atStart => exact ⟨0, Nat.zero_le _, rfl, by simp [cntN], hbk⟩
              case round =>
                obtain ⟨q, hq, rfl, rfl, hbq⟩ := hrel
                clear hbk hbkw
                by_cases hqt : q < n
                · obtain ⟨⟨id2, ps2, vs2⟩, hb2⟩ : ∃ b, bs[q]? = some b := ⟨_, List.getElem?_eq_getElem (by rw [HL.out]; omega)⟩
                  have hbqw := hb3w.trans (hbq.mono hb3w.size)
                  have c0 := HC.out wr hbqw q _ hb2
                  have c1 := HC.out wr hbqw k _ HBI.out
                  dsimp only at c0 c1
                  have hcl := cntN_take bs q id
                  by_cases hid : id2 = id
                  · have hh := cnt_hit bs q _ id hb2 hid
                    have t1 : (id2 == id) = true := by simpa using hid
                    obtain ⟨C2, hCC⟩ : ∃ C, cntN (bs.take q) id = C := ⟨_, rfl⟩
                    rw [hCC] at hh hcl ⊢
                    have HH := Lib.hid hh
                    clear hb2 hid hh hCC
                    go_wp2_with fail
                    go_quiet (fail)
                    go_wp2_with fail
                    go_roundw
                    case rel => exact ⟨q + 1, by omega, by go_num, by rw [HH.out]; go_num, below_drewN hbq _⟩
                    case measure => simp [intOf]; omega
                  · have hh := cnt_miss bs q _ id hb2 hid
                    have t1 : (id2 == id) = false := by simpa using hid
                    obtain ⟨C2, hCC⟩ : ∃ C, cntN (bs.take q) id = C := ⟨_, rfl⟩
                    rw [hCC] at hh hcl ⊢
                    have HH := Lib.hid hh
                    clear hb2 hid hh hCC
                    go_wp2_with fail
                    go_quiet (fail)
                    go_wp2_with fail
                    go_roundw
                    case rel => exact ⟨q + 1, by omega, by go_num, by rw [HH.out], below_drewN hbq _⟩
                    case measure => simp [intOf]; omega
                · obtain rfl : q = n := by omega
                  have hbqw := hb3w.trans (hbq.mono hb3w.size)
                  have c0 := HC.out wr hbqw k _ HBI.out
                  dsimp only at c0
                  have ht : bs.take q = bs := List.take_of_length_le (by rw [HL.out]; exact Nat.le_refl _)
                  rw [ht]
                  have hcl := cntN_le bs id
                  rw [HL.out] at hcl
                  have hfn := find_no bs X id HO.out
                  obtain ⟨C2, hCC⟩ : ∃ C, cntN bs id = C := ⟨_, rfl⟩
                  rw [hCC] at hcl hfn ⊢
                  have HF := Lib.hid (find_own A3 n3 c3 X id (C2 : Int) (by omega) (by omega) wr (HX.out wr hbq) HU.out)
                  rw [hfn] at HF
                  clear hfn hCC ht
                  go_wp2_with fail
                  refine HF.out.mono ?_
                  rintro e w' ⟨rfl, rfl⟩
                  clear HF c0
                  go_wp2_with fail
                  go_roundw
                  case rel => exact ⟨k + 1, by omega, by go_num, by rw [HTN.out]; go_num, hbq⟩
                  case measure => simp [intOf]; omega
        · obtain rfl : i = n := by omega
          go_wp2
          go_ret
          exact ⟨rfl, hb3w.trans (hbr.mono hb3w.size)⟩
end Go.Proofs.Ytnnknnaimabehaa
