/- kilowattref02.place, Words and Value. -/
import Derived.Test.YtnnknnaimabehaaRegsWords
import Derived.Test.YtnnknnaimabehaaRegsValue
import Derived.Deep.RegionHeld3
import Derived.Deep.AppendLies
namespace Go.Proofs.Ytnnknnaimabehaa
open Go.RowKit
set_option maxRecDepth 100000

def placeN (k n : Nat) (o : Int) : Nat := if o = 2 then n - 2 - k / 2 * 2 + k % 2 else if o = 3 then k / 2 * 2 + 1 - k % 2 else if o = 4 then n - 1 - k else k
theorem place_any (k n : Nat) (o : Int) (ho : knownB o = true) (h2 : n % 2 = 0) (hk : k < n) (hn : n ≤ 100) (w : World) :
    Calls Try.prog 52 #[.int .i64 k, .int .i64 n, .int .i64 o] w fun e w' => e = .returned (.int .i64 (placeN k n o : Nat)) ∧ w = w' := by
  have : o = 1 ∨ o = 2 ∨ o = 3 ∨ o = 4 := by simp [knownB] at ho; omega
  rcases this with rfl | rfl | rfl | rfl
  all_goals
    go_in; go_wp2; go_ret
    exact ⟨reti (by simp [placeN] <;> omega), rfl⟩

theorem place_at (a b o : Int) (k n p : Nat) (ha : a = k) (hb : b = n) (ho : knownB o = true) (h2 : n % 2 = 0) (hk : k < n) (hn : n ≤ 100) (hp : placeN k n o = p) (w : World) :
    Calls Try.prog 52 #[.int .i64 a, .int .i64 b, .int .i64 o] w fun e w' => e = .returned (.int .i64 (p : Nat)) ∧ w' = w := by
  subst ha; subst hb; subst hp
  exact (place_any k n o ho h2 hk hn w).mono fun _ _ ⟨h, h'⟩ => ⟨h, h'.symm⟩
theorem placeN_lt (k n : Nat) (o : Int) (h2 : n % 2 = 0) (hk : k < n) : placeN k n o < n := by
  unfold placeN; split
  · omega
  · split
    · omega
    · split <;> omega
/-- The lowest bytes of a number, the highest first. -/
def beB (v : Int) : Nat → List Int
  | 0 => []
  | j + 1 => v / 256 ^ j % 256 :: beB v j
theorem beB_len (v : Int) (j : Nat) : (beB v j).length = j := by induction j with | zero => rfl | succ j ih => simp [beB, ih]
theorem beB_in (v : Int) (j : Nat) : ∀ x ∈ beB v j, 0 ≤ x ∧ x < 256 := by
  induction j with
  | zero => intro x hx; simp [beB] at hx
  | succ j ih =>
    intro x hx
    simp only [beB, List.mem_cons] at hx
    rcases hx with rfl | hx
    · omega
    · exact ih x hx
def fillB (v : Int) (n j : Nat) : List Int := List.replicate (n - j) 0 ++ beB v j
theorem fillB_len (v : Int) (n j : Nat) (h : j ≤ n) : (fillB v n j).length = n := by simp [fillB, beB_len]; omega
theorem fillB_step (v : Int) (n j : Nat) (h : j < n) : (fillB v n j).set (n - 1 - j) (v / 256 ^ j % 256) = fillB v n (j + 1) := by
  unfold fillB
  rw [List.set_append_left _ _ (by simp; omega)]
  have e : n - j = (n - 1 - j) + 1 := by omega
  rw [e, List.replicate_succ', List.set_append_right _ _ (by simp)]
  simp only [List.length_replicate, Nat.sub_self, List.set_cons_zero, List.append_assoc, List.cons_append, List.nil_append, beB]
  rw [show n - (j + 1) = n - 1 - j by omega]

theorem infoU8 : (Try.prog.info? 5).map (fun i => (i.zero, i.size, i.bytes)) = some (some (.int .u8 0), 1, 1) := by kernel_rfl

/-- A word out of bytes. -/
def wordAt (bs : List Int) (n : Nat) (o : Int) (k : Nat) : Int := bs.getD (placeN (2 * k) n o) 0 * 256 + bs.getD (placeN (2 * k + 1) n o) 0
def wordsTo (bs : List Int) (n : Nat) (o : Int) (k : Nat) : List Int := (List.range k).map (wordAt bs n o)
theorem wordsTo_succ (bs : List Int) (n : Nat) (o : Int) (k : Nat) : wordsTo bs n o (k + 1) = wordsTo bs n o k ++ [wordAt bs n o k] := by simp [wordsTo, List.range_succ]

theorem refwords_yes (v m o : Int) (h0 : 0 ≤ v) (hv : v ≤ 18446744073709551615) (w : World) (hf : fitsB v m = true) (hk : knownB o = true) :
    Calls Try.prog 41 #[.int .u64 v, .int .i64 m, .int .i64 o] w fun e w' => ∃ (u : Value) (k : Nat), e = .returned (.tuple #[u, .int .i64 0]) ∧ (k : Int) = m ∧ w'.ownsRow w.heap.size 40 1 u k ((wordsTo (beB v (2 * k)) (2 * k) o k).map (.int .u16)) ∧ Below w.heap.size w w' := by
  have hm : m = 1 ∨ m = 2 ∨ m = 4 := by simp [fitsB] at hf; omega
  obtain ⟨k, rfl, hk4, hk1⟩ : ∃ k : Nat, m = k ∧ k ≤ 4 ∧ 1 ≤ k := by
    rcases hm with rfl | rfl | rfl
    · exact ⟨1, rfl, by omega, by omega⟩
    · exact ⟨2, rfl, by omega, by omega⟩
    · exact ⟨4, rfl, by omega, by omega⟩
  have hmay : mayB k = true := by simp only [mayB, decide_eq_true_eq]; exact hm
  have ho1 : decide (o < 1) = false := by simp [knownB] at hk; simp; omega
  have ho4 : decide (4 < o) = false := by simp [knownB] at hk; simp; omega
  obtain ⟨i0, hi, hz0, hz1, hz2⟩ := info_parts infoU16
  obtain ⟨i8, hi8, hy0, hy1, hy2⟩ := info_parts infoU8
  have HM := Lib.hid hmay
  have HF := Lib.hid hf
  have HK := Lib.hid hk
  clear hmay hf hk hm
  go_in
  go_wp2_with (first
    | (go_at_call 28; refine (may_any k _).mono ?_; rintro e w' ⟨rfl, rfl⟩; rw [HM.out])
    | (go_at_call 51; refine (fits_ref v k _).mono ?_; rintro e w' ⟨rfl, rfl⟩; rw [HF.out])
    | (at_make; refine wpList_make_full _ rfl _ _ 94 rfl w.heap.size 5 i8 (.int .u8 0) 1 Try.underlying94 hi8 hy0 hy1 _ _ _ _ (2 * k) rfl rfl (by omega) (by omega) (by rw [hy2]; omega) (by unfold maxLen; omega) (Nat.le_refl _) ?_; intro w1 hown1 hgrow1))
  have hown1 : w1.ownsRow w.heap.size 5 1 (.slice (some ⟨w.heap.size, 0, none⟩) (2 * k) (2 * k)) (2 * k) ((fillB v (2 * k) 0).map (.int .u8)) := by
    simpa [fillB, beB, toList_madeCells_one, Value.cells] using hown1
  go_loopw [0, 9] (fun u i wr => ∃ (j : Nat) (m : Int), j ≤ 2 * k ∧ i = .int .i64 m ∧ m = 2 * k - 1 - j ∧ u = .int .u64 (v / 256 ^ j) ∧ wr.ownsRow w.heap.size 5 1 (.slice (some ⟨w.heap.size, 0, none⟩) (2 * k) (2 * k)) (2 * k) ((fillB v (2 * k) j).map (.int .u8)) ∧ Below w.heap.size w wr) (fun _ i _ => (1 + intOf i).toNat)
  case atStart => exact ⟨0, _, by omega, rfl, by omega, by simp, hown1, (Below.refl _ _).grown hgrow1 (Nat.le_refl _) (fun k hk => by cases hk)⟩
  case round =>
    obtain ⟨j, m, hj, rfl, hm, rfl, hown, hb⟩ := hrel
    have hq0 : 0 ≤ v / 256 ^ j := Int.ediv_nonneg h0 (Int.pow_nonneg (by omega))
    have hq1 : v / 256 ^ j ≤ 18446744073709551615 := Int.le_trans (Int.ediv_le_self _ h0) hv
    have hqs := Lib.hid (show v / 256 ^ j / 256 = v / 256 ^ (j + 1) by rw [Int.pow_succ, Int.ediv_ediv_of_nonneg (Int.pow_nonneg (by omega))])
    have HST := Lib.hid (fillB_step v (2 * k) j)
    generalize v / 256 ^ j = q at hq0 hq1 hqs HST ⊢
    have HMM := Lib.hid hm
    by_cases hlt : j < 2 * k
    · obtain ⟨i, rfl⟩ := Int.eq_ofNat_of_zero_le (show 0 ≤ m by omega)
      have hi : i < 2 * k := by omega
      obtain ⟨x, hx, hcx, hfx⟩ := own_at hown (i := i) (by rw [fillB_len v _ _ hj]; exact hi)
      clear hx hm
      go_wp2
      go_roundw
      case rel =>
        refine ⟨j + 1, _, by omega, rfl, by have := HMM.out; omega, by rw [← hqs.out], ?_, hb.setCell (p := ⟨w.heap.size, i, none⟩) (Nat.le_refl _) _⟩
        rw [← HST.out hlt, show 2 * k - 1 - j = i by have := HMM.out; omega]
        have := own_set hown i (q % 256)
        simpa [IntKind.wrap_u8] using this
      case measure => simp [intOf]; omega
    · clear hm
      have hm' : m = -1 := by have := HMM.out; omega
      subst hm'
      obtain rfl : j = 2 * k := by have := HMM.out; omega
      have hsz := (own_lt hown).2
      have hR : RdI wr (w.heap.size + 1) .u8 (some ⟨w.heap.size, 0, none⟩) (beB v (2 * k)) := fun _ => by
        refine ⟨w.heap.size, 0, rfl, by omega, fun i x hx => ?_⟩
        have e : fillB v (2 * k) (2 * k) = beB v (2 * k) := by simp [fillB]
        rw [e] at hown
        obtain ⟨x', hx', hc, _⟩ := own_at hown (i := i) (List.getElem?_eq_some_iff.1 hx).1
        rw [hx] at hx'; injection hx' with hx'
        rw [Nat.zero_add, hx']; exact hc
      have HR := Lib.hid hR
      have HIN := Lib.hid (beB_in v (2 * k))
      have HLN := Lib.hid (beB_len v (2 * k))
      generalize hbs : beB v (2 * k) = bs at HR HIN HLN
      have HBS := Lib.hid hbs
      clear hR hbs hown HST hqs
      obtain ⟨wo, rfl⟩ : ∃ wo : World, wo = wr := ⟨_, rfl⟩
      go_wp2
      go_loopw [10, 11] (fun u i wr => ∃ (t : Nat) (s : Nat), t ≤ k ∧ i = .int .i64 s ∧ s = 2 * t ∧ wr.ownsRow (w.heap.size + 1) 40 1 u t ((wordsTo bs (2 * k) o t).map (.int .u16)) ∧ Below (w.heap.size + 1) wo wr) (fun _ i _ => 2 * k - (intOf i).toNat)
      case atStart => exact ⟨0, 0, by omega, rfl, by omega, World.ownsRow_nil _ _ _ _, Below.refl _ _⟩
      case round =>
        obtain ⟨t, s, ht, rfl, hs, hown, hb2⟩ := hrel
        have HS := Lib.hid hs
        by_cases hlt : s < 2 * k
        · have hp1 := placeN_lt s (2 * k) o (by omega) hlt
          have hp2 := placeN_lt (s + 1) (2 * k) o (by omega) (by omega)
          have hw := wordsTo_succ bs (2 * k) o t
          unfold wordAt at hw
          rw [← hs] at hw
          have HW := Lib.hid hw
          generalize hP1 : placeN s (2 * k) o = p1 at hp1 HW
          generalize hP2 : placeN (s + 1) (2 * k) o = p2 at hp2 HW
          have HP1 := Lib.hid hP1
          have HP2 := Lib.hid hP2
          obtain ⟨g, off, x1, hg, _, hx1, hc1⟩ := (HR.out.below hb2).at_ (i := p1) (by rw [HLN.out]; exact hp1)
          obtain ⟨g', off', x2, hg', _, hx2, hc2⟩ := (HR.out.below hb2).at_ (i := p2) (by rw [HLN.out]; exact hp2)
          injection hg with hg; injection hg with hg hg0; subst hg; subst hg0
          injection hg' with hg'; injection hg' with hg' hg0'; subst hg'; subst hg0'
          rw [Nat.zero_add] at hc1 hc2
          obtain ⟨b1, b2⟩ := HIN.out x1 (List.mem_of_getElem? hx1)
          obtain ⟨b3, b4⟩ := HIN.out x2 (List.mem_of_getElem? hx2)
          have HX1 := Lib.hid hx1
          have HX2 := Lib.hid hx2
          clear hx1 hx2 hs hw hP1 hP2
          have c1 := fun W => place_at s (2 * (k : Int)) o s (2 * k) p1 rfl (by omega) HK.out (by omega) hlt (by omega) HP1.out W
          have c2 := fun W => place_at (s + 1) (2 * (k : Int)) o (s + 1) (2 * k) p2 (by omega) (by omega) HK.out (by omega) (by have := HS.out; omega) (by omega) HP2.out W
          have C1 := Lib.hid c1
          have C2 := Lib.hid c2
          have hp1' : (p1 : Int) < 2 * (k : Int) := by omega
          have hp2' : (p2 : Int) < 2 * (k : Int) := by omega
          have wr1 : IntKind.i64.wrap (2 * (k : Int)) = 2 * (k : Int) := IntWalk.i64_in _ (by omega)
          have wr2 : IntKind.i64.wrap ((s : Int) + 1) = (s : Int) + 1 := IntWalk.i64_in _ (by omega)
          have wr3 : IntKind.u16.wrap x1 = x1 := IntWalk.u16_in _ (by omega)
          have wr4 : IntKind.u16.wrap x2 = x2 := IntWalk.u16_in _ (by omega)
          have wr5 : IntKind.u16.wrap (x1 * 256) = x1 * 256 := IntWalk.u16_in _ (by omega)
          have wr6 : IntKind.u16.wrap (x1 * 256 + x2) = x1 * 256 + x2 := IntWalk.u16_in _ (by omega)
          clear c1 c2
          have hszr := hb2.size
          go_wp2
          go_region_held3 (fun w' => w'.cell? ⟨w.heap.size, p1, none⟩ = some (.int .u8 x1) ∧ w'.cell? ⟨w.heap.size, p2, none⟩ = some (.int .u8 x2))
            (first
              | go_keep
              | (go_split_ands
                 refine ⟨?_, ?_⟩
                 · (rw [hgrow.cell_far _ (by simp; omega) (fun e => by have := (hown.lt _ e.symm).1; simp at this; omega)]; assumption)
                 · (rw [hgrow.cell_far _ (by simp; omega) (fun e => by have := (hown.lt _ e.symm).1; simp at this; omega)]; assumption)))
            (first
              | (go_at_call 52; (with_reducible refine (C1.out _).mono ?_); rintro e w' ⟨rfl, rfl⟩)
              | (go_at_call 52; (with_reducible refine (C2.out _).mono ?_); rintro e w' ⟨rfl, rfl⟩)
              | (refine step_append_lies _ (by rfl) _ _ _ (by rfl) (w.heap.size + 1) 40 i0 (.int .u16 0) 1 2 Try.underlying25 hi hz0 hz1 hz2 rfl (by decide) u10 t _ (by rfl) ((hown.alloc _).drew)
                  ⟨wr.heap.size, 0, none⟩ 1 1 [.int .u16 (x1 * 256 + x2)] (by rfl) (by rfl) (World.news_of_block (cs := #[.int .u16 (x1 * 256 + x2)]) (t := 40) (fr := (0, 0)) (heap_alloc_new wr _)) (by simp [Value.oneCell'])
                  (by omega) (by unfold maxLen; omega) (by omega) (by simp; omega) (wr.heap.size + 1) (by simp) ?_; intro gg cap w1 hown' hgrow hat hlt2))
          clear wr1 wr2 wr3 wr4 wr5 wr6
          go_wp2
          go_roundw
          case rel =>
            refine ⟨t + 1, s + 2, by have := HS.out; omega, by go_num, by have := HS.out; omega, ?_, ?_⟩
            · rw [HW.out]
              simpa [List.getD, HX1.out, HX2.out] using hown'
            · exact ((hb2.alloc (by omega) _).drew).grown hgrow (by simp; omega) (fun k hk => (hown.lt k hk).1)
          case measure => simp [intOf]; omega
        · obtain rfl : t = k := by omega
          go_wp2
          go_ret2
          refine ⟨_, t, rfl, rfl, own_base (base := w.heap.size + 1) ?_ (by omega), hb.trans (hb2.mono (by omega))⟩
          rw [HBS.out]
          exact hown

/-- kilowattref02.Words, what it refuses. -/
theorem refwords_no (v m o : Int) (w : World) (h : wordsB v m o = false) :
    Calls Try.prog 41 #[.int .u64 v, .int .i64 m, .int .i64 o] w fun e w' => e = .returned (.tuple #[.slice none 0 0, .int .i64 20]) ∧ w = w' := by
  cases hm : mayB m with
  | false =>
    have HM := Lib.hid hm
    clear hm h
    go_in
    go_wp2_with (go_at_call 28; refine (may_any m _).mono ?_; rintro e w' ⟨rfl, rfl⟩; rw [HM.out])
    go_ret2
    exact ⟨rfl, rfl⟩
  | true =>
    cases hf : fitsB v m with
    | false =>
      have HM := Lib.hid hm
      have HF := Lib.hid hf
      clear hm hf h
      go_in
      go_wp2_with (first
        | (go_at_call 28; refine (may_any m _).mono ?_; rintro e w' ⟨rfl, rfl⟩; rw [HM.out])
        | (go_at_call 51; refine (fits_ref v m _).mono ?_; rintro e w' ⟨rfl, rfl⟩; rw [HF.out]))
      go_ret2
      exact ⟨rfl, rfl⟩
    | true =>
      have hk : knownB o = false := by simpa [wordsB, hf] using h
      have HM := Lib.hid hm
      have HF := Lib.hid hf
      have HK := Lib.hid hk
      clear hm hf h
      by_cases h1 : o < 1
      · have ho1 : decide (o < 1) = true := by simpa using h1
        clear hk
        go_in
        go_wp2_with (first
          | (go_at_call 28; refine (may_any m _).mono ?_; rintro e w' ⟨rfl, rfl⟩; rw [HM.out])
          | (go_at_call 51; refine (fits_ref v m _).mono ?_; rintro e w' ⟨rfl, rfl⟩; rw [HF.out]))
        go_ret2
        exact ⟨rfl, rfl⟩
      · have ho1 : decide (o < 1) = false := by simpa using h1
        have ho4 : decide (4 < o) = true := by simp [knownB] at hk; simp; omega
        clear hk
        go_in
        go_wp2_with (first
          | (go_at_call 28; refine (may_any m _).mono ?_; rintro e w' ⟨rfl, rfl⟩; rw [HM.out])
          | (go_at_call 51; refine (fits_ref v m _).mono ?_; rintro e w' ⟨rfl, rfl⟩; rw [HF.out]))
        go_ret2
        exact ⟨rfl, rfl⟩

/-- The bytes, put together, are the registers. -/
theorem words_same (v o : Int) (k : Nat) (hk : k = 1 ∨ k = 2 ∨ k = 4) (ho : knownB o = true) : wordsTo (beB v (2 * k)) (2 * k) o k = turnL o (bigW v k) := by
  have : o = 1 ∨ o = 2 ∨ o = 3 ∨ o = 4 := by simp [knownB] at ho; omega
  rcases hk with rfl | rfl | rfl <;> rcases this with rfl | rfl | rfl | rfl <;>
    simp [wordsTo, wordAt, beB, placeN, turnL, bigW, List.range_succ, swapB] <;> omega
end Go.Proofs.Ytnnknnaimabehaa
