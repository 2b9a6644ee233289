/- kilowattref19.Read is readP. -/
import Derived.Test.YtcipleanckeoaaaDoorYTk
import Derived.Test.YtcipleanckeoaaaDoorYPduRead
import Derived.Test.YtcipleanckeoaaaDoorYPduMay
import Derived.Test.YtcipleanckeoaaaDoorYPduGs
import Derived.Test.YtcipleanckeoaaaDoorYPduGs15
import Derived.Test.YtcipleanckeoaaaDoorYPduGs16
import Derived.Test.YtcipleanckeoaaaDoorYPduGs23
set_option maxRecDepth 100000
set_option maxHeartbeats 40000000
namespace Go.Proofs.YtcipleanckeoaaaDoor
open Go.RowKit
set_option linter.unusedVariables false
def filt (o : Option AskP) : Option AskP := match o with
 | none => none
 | some a => if limitsP a = true then some a else none
def GuessOK (f : Int) (b : List Int) (o : Option AskP) : Prop := filt o = parseP b ∧ ∀ a, o = some a → a.fn = f
theorem ok_none {f : Int} {b : List Int} (h : parseP b = none) : GuessOK f b none := ⟨h.symm, fun _ h => by cases h⟩
theorem ok_some {f : Int} {b : List Int} {a : AskP} (hf : a.fn = f) (h : parseP b = if limitsP a = true then some a else none) : GuessOK f b (some a) := ⟨h.symm, fun _ h => by cases h; exact hf⟩
theorem atP_cons (f : Int) (d : List Int) (i : Nat) (h : i + 2 ≤ d.length) : atP (f :: d) (i + 1) = wordP d i := by
 unfold atP
 rw [if_pos (by simp; omega)]
 rfl
theorem atP_out (f : Int) (d : List Int) (i : Nat) (h : d.length < i + 2) : atP (f :: d) (i + 1) = -1 := by
 unfold atP
 rw [if_neg (by simp; omega)]
theorem fit0 : fitP 0 0 = true := by decide
theorem fit_1 (x m : Int) (h : 1 ≤ m) : fitP x m = true ↔ 1 ≤ x ∧ x ≤ m := by
 simp only [fitP, Bool.and_eq_true, decide_eq_true_eq]
 omega
theorem ne_b {a b : Int} : (a != b) = false ↔ a = b := by simp
theorem guess_ref (fn : Int) (d : List Int) (g off n c : Nat) (w : World) (hB : SlI w w.heap.size .u8 (some ⟨g, off, none⟩) n c (fn :: d)) (hy8 : Byte8 (fn :: d)) (hn : n ≤ 1000) (r bt rg : Int) (hlim : limP fn = some (r, bt, rg)) :
  ∃ o, GuessOK fn (fn :: d) o ∧ ∀ X, Below w.heap.size w X → Calls Tryd.prog 128 #[.slice (some ⟨g, off, none⟩) n c] X (FPost X o) := by
 have hl : d.length + 1 = n := hB.1
 have hd8 : Byte8 d := fun x hx => hy8 x (by simp [hx])
 have hn0 : 0 < n := by omega
 have hfn : (fn :: d).getD 0 0 = fn := rfl
 by_cases h2 : d.length < 2
 ·exact ⟨none, ok_none (parse_short fn d (by omega)), fun X h => gs_s1 g off n c (fn :: d) X (hB.up h) hy8 hn0 hn fn hfn (by rw [atP_out fn d 0 (by omega)]; omega) none (Lib.hid rfl)⟩
 have e1 : atP (fn :: d) 1 = wordP d 0 := atP_cons fn d 0 (by omega)
 have r1 := gs_wordP_in d hd8 0 (by omega)
 by_cases h4 : d.length < 4
 ·exact ⟨none, ok_none (parse_short fn d (by omega)), fun X h => gs_s2 g off n c (fn :: d) X (hB.up h) hy8 hn0 hn fn hfn (by rw [e1]; omega) (by rw [atP_out fn d 2 (by omega)]; omega) none (Lib.hid rfl)⟩
 have e3 : atP (fn :: d) 3 = wordP d 2 := atP_cons fn d 2 (by omega)
 have r3 := gs_wordP_in d hd8 2 (by omega)
 have a1 : 0 ≤ atP (fn :: d) 3 := by rw [e3]; omega
 have a2 : atP (fn :: d) 3 ≤ 65535 := by rw [e3]; omega
 have a3 : 0 ≤ atP (fn :: d) 1 := by rw [e1]; omega
 have d4 : 4 ≤ d.length := by omega
 by_cases h5 : fn = 5
 ·subst h5
  obtain ⟨q, hq⟩ : ∃ q, (decide (d.length = 4) && ((wordP d 2 == 65280) || (wordP d 2 == 0))) = q := ⟨_, rfl⟩
  have hp := parse_5 d d4 q hq
  have hok : GuessOK 5 (5 :: d) (if q = true then some ⟨5, wordP d 0, 0, 0, [wordP d 2 == 65280], []⟩ else none) := by
   cases q
   ·exact ok_none hp
   ·exact ok_some rfl (by rw [show limitsP ⟨5, wordP d 0, 0, 0, [wordP d 2 == 65280], []⟩ = true from rfl]; exact hp)
  refine ⟨_, hok, ?_⟩
  by_cases hn5 : n = 5
  ·rw [decide_eq_true (by omega), Bool.true_and] at hq
   have hb5 : ((n : Int) == 5) = true := by rw [beq_iff_eq]; omega
   cases h1 : wordP d 2 == 65280
   ·rw [h1, Bool.false_or] at hq
    cases q
    ·exact fun X h => gs_5c g off n c (5 :: d) X (hB.up h) hy8 hn0 hn 5 hfn a1 a2 a3 rfl rfl rfl rfl rfl hb5 (by rw [e3]; exact h1) (by rw [e3]; exact hq) _ (Lib.hid rfl)
    ·exact fun X h => gs_5b g off n c (5 :: d) X (hB.up h) hy8 hn0 hn 5 hfn a1 a2 a3 rfl rfl rfl rfl rfl hb5 (by rw [e3]; exact h1) (by rw [e3]; exact hq) _ (Lib.hid (by rw [e1]))
   ·rw [h1, Bool.true_or] at hq
    subst hq
    exact fun X h => gs_5a g off n c (5 :: d) X (hB.up h) hy8 hn0 hn 5 hfn a1 a2 a3 rfl rfl rfl rfl rfl hb5 (by rw [e3]; exact h1) _ (Lib.hid (by rw [e1]))
  ·rw [decide_eq_false (by omega), Bool.false_and] at hq
   subst hq
   exact fun X h => gs_5n g off n c (5 :: d) X (hB.up h) hy8 hn0 hn 5 hfn a1 a2 a3 rfl rfl rfl rfl rfl (by rw [beq_eq_false_iff_ne]; omega) _ rfl _ (Lib.hid rfl)
 by_cases h6 : fn = 6
 ·subst h6
  have hp := parse_6 d d4 _ rfl
  have hok : GuessOK 6 (6 :: d) (if decide (d.length = 4) = true then some ⟨6, wordP d 0, 0, 0, [], [wordP d 2]⟩ else none) := by
   cases hq : decide (d.length = 4)
   ·rw [hq] at hp; exact ok_none hp
   ·rw [hq] at hp; exact ok_some rfl (by rw [show limitsP ⟨6, wordP d 0, 0, 0, [], [wordP d 2]⟩ = true from rfl]; exact hp)
  refine ⟨_, hok, fun X h => gs_6 g off n c (6 :: d) X (hB.up h) hy8 hn0 hn 6 hfn a1 a2 a3 rfl rfl rfl rfl rfl (decide (d.length = 4)) ?_ _ (Lib.hid (by rw [e1, e3]))⟩
  rw [Bool.eq_iff_iff]
  simp only [beq_iff_eq, decide_eq_true_eq]
  omega
 by_cases h15 : fn = 15
 ·subst h15
  have hp := parse_15u d d4
  have e5 : (15 :: d).getD 5 0 = d.getD 4 0 := rfl
  by_cases l6 : n < 6
  ·exact ⟨none, ok_none (by rw [hp, if_neg]; rintro ⟨-, h, -⟩; omega), fun X h => gs_15l g off n c (15 :: d) X (hB.up h) hy8 hn0 hn 15 hfn a1 a2 a3 rfl rfl rfl rfl rfl l6 none (Lib.hid rfl)⟩
  cases tx : (15 :: d).getD 5 0 != (atP (15 :: d) 3 + 7) / 8 with
  | true =>
   refine ⟨none, ok_none ?_, fun X h => gs_15x g off n c (15 :: d) X (hB.up h) hy8 hn0 hn 15 hfn a1 a2 a3 rfl rfl rfl rfl rfl (by omega) tx none (Lib.hid rfl)⟩
   rw [e3, e5] at tx
   rw [hp, if_neg]
   rintro ⟨-, -, h, -⟩
   simp at tx
   exact tx h
  | false =>
   cases ty : (n : Int) != 6 + (atP (15 :: d) 3 + 7) / 8 with
   | true =>
    refine ⟨none, ok_none ?_, fun X h => gs_15y g off n c (15 :: d) X (hB.up h) hy8 hn0 hn 15 hfn a1 a2 a3 rfl rfl rfl rfl rfl (by omega) tx ty none (Lib.hid rfl)⟩
    rw [e3] at ty
    rw [hp, if_neg]
    rintro ⟨-, -, -, h⟩
    simp at ty
    exact ty (by rw [← h]; omega)
   | false =>
    refine ⟨some ⟨15, wordP d 0, 0, 0, unpackP (d.drop 5) (wordP d 2).toNat, []⟩, ok_some rfl ?_, fun X h => gs_15g g off n c (15 :: d) X (hB.up h) hy8 hn0 hn 15 hfn a1 a2 a3 rfl rfl rfl rfl rfl (by omega) tx ty (wordP d 2).toNat (by rw [e3]; omega) _ (Lib.hid (by rw [e1]; rfl))⟩
    rw [e3, e5] at tx
    rw [e3] at ty
    have tx' := ne_b.1 tx
    have ty' := ne_b.1 ty
    have hb : limitsP ⟨15, wordP d 0, 0, 0, unpackP (d.drop 5) (wordP d 2).toNat, []⟩ = true ↔ (1 ≤ wordP d 2 ∧ wordP d 2 ≤ 1968) := by
     have e : limitsP ⟨15, wordP d 0, 0, 0, unpackP (d.drop 5) (wordP d 2).toNat, []⟩ = (fitP 0 0 && fitP ((unpackP (d.drop 5) (wordP d 2).toNat).length : Int) 1968 && fitP 0 0) := rfl
     rw [e, fit0, Bool.true_and, Bool.and_true, fit_1 _ _ (by omega), unpackP_len]
     omega
    by_cases hk : 1 ≤ wordP d 2 ∧ wordP d 2 ≤ 1968
    ·rw [if_pos (hb.2 hk), hp, if_pos ⟨hk, by omega, tx', by omega⟩]
    ·rw [if_neg (fun h => hk (hb.1 h)), hp, if_neg (fun h => hk h.1)]
 by_cases h16 : fn = 16
 ·subst h16
  have hp := parse_16u d d4
  have e5 : (16 :: d).getD 5 0 = d.getD 4 0 := rfl
  by_cases l6 : n ≤ 5
  ·exact ⟨none, ok_none (by rw [hp, if_neg]; rintro ⟨-, h, -⟩; omega), fun X h => gs_16l g off n c (16 :: d) X (hB.up h) hy8 hn0 hn 16 hfn a1 a2 a3 rfl rfl rfl rfl rfl l6 none (Lib.hid rfl)⟩
  cases tx : (16 :: d).getD 5 0 != 2 * atP (16 :: d) 3 with
  | true =>
   refine ⟨none, ok_none ?_, fun X h => gs_16x g off n c (16 :: d) X (hB.up h) hy8 hn0 hn 16 hfn a1 a2 a3 rfl rfl rfl rfl rfl (by omega) tx none (Lib.hid rfl)⟩
   rw [e3, e5] at tx
   rw [hp, if_neg]
   rintro ⟨-, -, h, -⟩
   simp at tx
   exact tx h
  | false =>
   cases ty : (n : Int) != 6 + 2 * atP (16 :: d) 3 with
   | true =>
    refine ⟨none, ok_none ?_, fun X h => gs_16y g off n c (16 :: d) X (hB.up h) hy8 hn0 hn 16 hfn a1 a2 a3 rfl rfl rfl rfl rfl (by omega) tx ty none (Lib.hid rfl)⟩
    rw [e3] at ty
    rw [hp, if_neg]
    rintro ⟨-, -, -, h⟩
    simp at ty
    exact ty (by rw [← h]; omega)
   | false =>
    refine ⟨some ⟨16, wordP d 0, 0, 0, [], wordsP (d.drop 5)⟩, ok_some rfl ?_, fun X h => gs_16g g off n c (16 :: d) X (hB.up h) hy8 hn0 hn 16 hfn a1 a2 a3 rfl rfl rfl rfl rfl (by omega) tx ty (wordP d 2).toNat (by rw [e3]; omega) _ (Lib.hid (by rw [e1]; rfl))⟩
    rw [e3, e5] at tx
    rw [e3] at ty
    have tx' := ne_b.1 tx
    have ty' := ne_b.1 ty
    have hb : limitsP ⟨16, wordP d 0, 0, 0, [], wordsP (d.drop 5)⟩ = true ↔ (1 ≤ wordP d 2 ∧ wordP d 2 ≤ 123) := by
     have e : limitsP ⟨16, wordP d 0, 0, 0, [], wordsP (d.drop 5)⟩ = (fitP 0 0 && fitP 0 0 && fitP ((wordsP (d.drop 5)).length : Int) 123) := rfl
     rw [e, fit0, Bool.true_and, Bool.true_and, fit_1 _ _ (by omega), wordsP_len, List.length_drop]
     omega
    by_cases hk : 1 ≤ wordP d 2 ∧ wordP d 2 ≤ 123
    ·rw [if_pos (hb.2 hk), hp, if_pos ⟨hk, by omega, tx', by omega⟩]
    ·rw [if_neg (fun h => hk (hb.1 h)), hp, if_neg (fun h => hk h.1)]
 by_cases h23 : fn = 23
 ·subst h23
  have hp := parse_23u d d4
  have e9 : (23 :: d).getD 9 0 = d.getD 8 0 := rfl
  by_cases l6 : d.length < 6
  ·exact ⟨none, ok_none (by rw [hp, if_neg]; rintro ⟨-, h, -⟩; omega), fun X h => gs_23t g off n c (23 :: d) X (hB.up h) hy8 hn0 hn 23 hfn a1 a2 a3 rfl rfl rfl rfl rfl (by rw [atP_out 23 d 4 (by omega)]; omega) none (Lib.hid rfl)⟩
  have e5 : atP (23 :: d) 5 = wordP d 4 := atP_cons 23 d 4 (by omega)
  have r5 := gs_wordP_in d hd8 4 (by omega)
  have b1 : 0 ≤ atP (23 :: d) 5 := by rw [e5]; omega
  have b2 : atP (23 :: d) 5 ≤ 65535 := by rw [e5]; omega
  by_cases l8 : d.length < 8
  ·exact ⟨none, ok_none (by rw [hp, if_neg]; rintro ⟨-, h, -⟩; omega), fun X h => gs_23m g off n c (23 :: d) X (hB.up h) hy8 hn0 hn 23 hfn a1 a2 a3 rfl rfl rfl rfl rfl b1 (by rw [atP_out 23 d 6 (by omega)]; omega) none (Lib.hid rfl)⟩
  have e7 : atP (23 :: d) 7 = wordP d 6 := atP_cons 23 d 6 (by omega)
  have r7 := gs_wordP_in d hd8 6 (by omega)
  have b3 : 0 ≤ atP (23 :: d) 7 := by rw [e7]; omega
  have b4 : atP (23 :: d) 7 ≤ 65535 := by rw [e7]; omega
  by_cases l9 : n ≤ 9
  ·exact ⟨none, ok_none (by rw [hp, if_neg]; rintro ⟨-, h, -⟩; omega), fun X h => gs_23l g off n c (23 :: d) X (hB.up h) hy8 hn0 hn 23 hfn a1 a2 a3 rfl rfl rfl rfl rfl b1 b2 b3 b4 l9 none (Lib.hid rfl)⟩
  cases tx : (23 :: d).getD 9 0 != 2 * atP (23 :: d) 7 with
  | true =>
   refine ⟨none, ok_none ?_, fun X h => gs_23x g off n c (23 :: d) X (hB.up h) hy8 hn0 hn 23 hfn a1 a2 a3 rfl rfl rfl rfl rfl b1 b2 b3 b4 (by omega) tx none (Lib.hid rfl)⟩
   rw [e7, e9] at tx
   rw [hp, if_neg]
   rintro ⟨-, -, -, h, -⟩
   simp at tx
   exact tx h
  | false =>
   cases ty : (n : Int) != 10 + 2 * atP (23 :: d) 7 with
   | true =>
    refine ⟨none, ok_none ?_, fun X h => gs_23y g off n c (23 :: d) X (hB.up h) hy8 hn0 hn 23 hfn a1 a2 a3 rfl rfl rfl rfl rfl b1 b2 b3 b4 (by omega) tx ty none (Lib.hid rfl)⟩
    rw [e7] at ty
    rw [hp, if_neg]
    rintro ⟨-, -, -, -, h⟩
    simp at ty
    exact ty (by rw [← h]; omega)
   | false =>
    refine ⟨some ⟨23, wordP d 0, wordP d 2, wordP d 4, [], wordsP (d.drop 9)⟩, ok_some rfl ?_, fun X h => gs_23g g off n c (23 :: d) X (hB.up h) hy8 hn0 hn 23 hfn a1 a2 a3 rfl rfl rfl rfl rfl b1 b2 b3 b4 (by omega) tx ty (wordP d 6).toNat (by rw [e7]; omega) _ (Lib.hid (by rw [e1, e3, e5]; rfl))⟩
    rw [e7, e9] at tx
    rw [e7] at ty
    have tx' := ne_b.1 tx
    have ty' := ne_b.1 ty
    have hb : limitsP ⟨23, wordP d 0, wordP d 2, wordP d 4, [], wordsP (d.drop 9)⟩ = true ↔ ((1 ≤ wordP d 2 ∧ wordP d 2 ≤ 125) ∧ (1 ≤ wordP d 6 ∧ wordP d 6 ≤ 121)) := by
     have e : limitsP ⟨23, wordP d 0, wordP d 2, wordP d 4, [], wordsP (d.drop 9)⟩ = (fitP (wordP d 2) 125 && fitP 0 0 && fitP ((wordsP (d.drop 9)).length : Int) 121) := rfl
     rw [e, fit0, Bool.and_true, Bool.and_eq_true, fit_1 _ _ (by omega), fit_1 _ _ (by omega), wordsP_len, List.length_drop]
     omega
    by_cases hk : (1 ≤ wordP d 2 ∧ wordP d 2 ≤ 125) ∧ (1 ≤ wordP d 6 ∧ wordP d 6 ≤ 121)
    ·rw [if_pos (hb.2 hk), hp, if_pos ⟨hk.1, by omega, hk.2, tx', by omega⟩]
    ·rw [if_neg (fun h => hk (hb.1 h)), hp, if_neg (fun h => hk ⟨h.1, h.2.2.1⟩)]
 have hp := parse_d fn d d4 r bt rg hlim h5 h6 h15 h16 h23
 have t5 : (fn == 5) = false := by simpa using h5
 have t6 : (fn == 6) = false := by simpa using h6
 have t15 : (fn == 15) = false := by simpa using h15
 have t16 : (fn == 16) = false := by simpa using h16
 have t23 : (fn == 23) = false := by simpa using h23
 have hz : bt = 0 ∧ rg = 0 := by
  unfold limP at hlim
  split at hlim
  ·simp at hlim; omega
  split at hlim
  ·simp at hlim; omega
  cases hlim
 obtain ⟨rfl, rfl⟩ := hz
 have hb : limitsP ⟨fn, wordP d 0, wordP d 2, 0, [], []⟩ = fitP (wordP d 2) r := by
  have e : limitsP ⟨fn, wordP d 0, wordP d 2, 0, [], []⟩ = (match limP fn with | none => false | some (r, b, g) => fitP (wordP d 2) r && fitP 0 b && fitP 0 g) := rfl
  rw [e, hlim]
  simp [fit0]
 have hok : GuessOK fn (fn :: d) (if decide (d.length = 4) = true then some ⟨fn, wordP d 0, wordP d 2, 0, [], []⟩ else none) := by
  by_cases hq : d.length = 4
  ·rw [decide_eq_true hq]
   refine ok_some rfl ?_
   rw [hb, hp]
   by_cases hk : fitP (wordP d 2) r = true
   ·rw [if_pos hk, if_pos ⟨hq, hk⟩]
   ·rw [if_neg hk, if_neg (fun h => hk h.2)]
  ·rw [decide_eq_false hq]
   exact ok_none (by rw [hp, if_neg (fun h => hq h.1)])
 refine ⟨_, hok, fun X h => gs_d g off n c (fn :: d) X (hB.up h) hy8 hn0 hn fn hfn a1 a2 a3 t5 t6 t15 t16 t23 (decide (d.length = 4)) ?_ _ (Lib.hid (by rw [e1, e3]))⟩
 rw [Bool.eq_iff_iff]
 simp only [beq_iff_eq, decide_eq_true_eq]
 omega
theorem rf_0 (A : Option Addr) (n c : Nat) (w : World) (hn : n = 0) :
  Calls Tryd.prog 95 #[.slice A n c] w (ReadPost w (ask0, 0, 190)) := by
 subst hn
 obtain ⟨w1, hw1⟩ : ∃ w1, w.alloc (.cells #[.int .i64 0, .int .i64 0, .int .i64 0, .int .i64 0, .slice none 0 0, .slice none 0 0] 59) = w1 := ⟨_, rfl⟩
 have hb1 := zB1 hw1
 have hO1 := zH1 hw1
 have HW1 := Lib.hid hw1
 clear hw1
 have hu := Tryd.underlying59
 have hsz := zSz
 have hb1w := hb1
 go_in
 go_upto_region 1 with fail
 rw [HW1.out]
 obtain ⟨o1_0, o1_1, o1_2, o1_3, o1_4, o1_5⟩ := zC6 hO1
 have fo1 := hO1.frozen
 have zo1 := hO1.lt
 go_wp2_with fail
 obtain ⟨w2, hw2⟩ : ∃ W, ((((((w1.setCell ⟨w.heap.size, 0, none⟩ (.int .i64 0)).setCell ⟨w.heap.size, 1, none⟩ (.int .i64 0)).setCell ⟨w.heap.size, 2, none⟩ (.int .i64 0)).setCell ⟨w.heap.size, 3, none⟩ (.int .i64 0)).setCell ⟨w.heap.size, 4, none⟩ (.slice none 0 0)).setCell ⟨w.heap.size, 5, none⟩ (.slice none 0 0)) = W := ⟨_, rfl⟩
 have hO2 : Held w2 w.heap.size 59 #[.int .i64 0, .int .i64 0, .int .i64 0, .int .i64 0, .slice none 0 0, .slice none 0 0] := by rw [← hw2]; exact ((((((hO1.set 0 _).set 1 _).set 2 _).set 3 _).set 4 _).set 5 _)
 have hb2w : Below w.heap.size w w2 := by rw [← hw2]; exact ((((((hb1w.setCell (p := ⟨w.heap.size, 0, none⟩) (Nat.le_refl _) _).setCell (p := ⟨w.heap.size, 1, none⟩) (Nat.le_refl _) _).setCell (p := ⟨w.heap.size, 2, none⟩) (Nat.le_refl _) _).setCell (p := ⟨w.heap.size, 3, none⟩) (Nat.le_refl _) _).setCell (p := ⟨w.heap.size, 4, none⟩) (Nat.le_refl _) _).setCell (p := ⟨w.heap.size, 5, none⟩) (Nat.le_refl _) _)
 have hoff2 : OffB w1 w2 w.heap.size := by rw [← hw2]; exact ((((((OffB.refl _ w.heap.size).set 0 _).set 1 _).set 2 _).set 3 _).set 4 _).set 5 _
 rw [hw2]
 clear hw2
 obtain ⟨q2_0, q2_1, q2_2, q2_3, q2_4, q2_5⟩ := zC6 hO2
 have fq2 := hO2.frozen
 have zq2 := hO2.lt
 have HP : ReadPost w (ask0, 0, 190) (.returned (.tuple #[.agg #[.int .i64 0, .int .i64 0, .int .i64 0, .int .i64 0, .slice none 0 0, .slice none 0 0], .int .i64 0, .int .i64 190])) w2 := ⟨_, rfl, ask0_at _, hb2w⟩
 exact bodyPost_ret (v := .tuple #[.agg #[.int .i64 0, .int .i64 0, .int .i64 0, .int .i64 0, .slice none 0 0, .slice none 0 0], .int .i64 0, .int .i64 190]) (by simp [results, Tryd.results95, go_sem, q2_0, q2_1, q2_2, q2_3, q2_4, q2_5]) rfl HP
theorem rf_l (A : Option Addr) (n c : Nat) (w : World) (hn : 253 < n) :
  Calls Tryd.prog 95 #[.slice A n c] w (ReadPost w (ask0, 0, 190)) := by
 have h1n : ((n : Int) == 0) = false := by rw [beq_eq_false_iff_ne]; omega
 have h1m : (n == 0) = false := by rw [beq_eq_false_iff_ne]; omega
 have h2n : (n : Int) > 253 := by omega
 have h2m : 253 < (n : Int) := by omega
 obtain ⟨w1, hw1⟩ : ∃ w1, w.alloc (.cells #[.int .i64 0, .int .i64 0, .int .i64 0, .int .i64 0, .slice none 0 0, .slice none 0 0] 59) = w1 := ⟨_, rfl⟩
 have hb1 := zB1 hw1
 have hO1 := zH1 hw1
 have HW1 := Lib.hid hw1
 clear hw1
 have hu := Tryd.underlying59
 have hsz := zSz
 have hb1w := hb1
 go_in
 go_upto_region 1 with fail
 rw [HW1.out]
 obtain ⟨o1_0, o1_1, o1_2, o1_3, o1_4, o1_5⟩ := zC6 hO1
 have fo1 := hO1.frozen
 have zo1 := hO1.lt
 go_wp2_with fail
 obtain ⟨w2, hw2⟩ : ∃ W, ((((((w1.setCell ⟨w.heap.size, 0, none⟩ (.int .i64 0)).setCell ⟨w.heap.size, 1, none⟩ (.int .i64 0)).setCell ⟨w.heap.size, 2, none⟩ (.int .i64 0)).setCell ⟨w.heap.size, 3, none⟩ (.int .i64 0)).setCell ⟨w.heap.size, 4, none⟩ (.slice none 0 0)).setCell ⟨w.heap.size, 5, none⟩ (.slice none 0 0)) = W := ⟨_, rfl⟩
 have hO2 : Held w2 w.heap.size 59 #[.int .i64 0, .int .i64 0, .int .i64 0, .int .i64 0, .slice none 0 0, .slice none 0 0] := by rw [← hw2]; exact ((((((hO1.set 0 _).set 1 _).set 2 _).set 3 _).set 4 _).set 5 _)
 have hb2w : Below w.heap.size w w2 := by rw [← hw2]; exact ((((((hb1w.setCell (p := ⟨w.heap.size, 0, none⟩) (Nat.le_refl _) _).setCell (p := ⟨w.heap.size, 1, none⟩) (Nat.le_refl _) _).setCell (p := ⟨w.heap.size, 2, none⟩) (Nat.le_refl _) _).setCell (p := ⟨w.heap.size, 3, none⟩) (Nat.le_refl _) _).setCell (p := ⟨w.heap.size, 4, none⟩) (Nat.le_refl _) _).setCell (p := ⟨w.heap.size, 5, none⟩) (Nat.le_refl _) _)
 have hoff2 : OffB w1 w2 w.heap.size := by rw [← hw2]; exact ((((((OffB.refl _ w.heap.size).set 0 _).set 1 _).set 2 _).set 3 _).set 4 _).set 5 _
 rw [hw2]
 clear hw2
 obtain ⟨q2_0, q2_1, q2_2, q2_3, q2_4, q2_5⟩ := zC6 hO2
 have fq2 := hO2.frozen
 have zq2 := hO2.lt
 have HP : ReadPost w (ask0, 0, 190) (.returned (.tuple #[.agg #[.int .i64 0, .int .i64 0, .int .i64 0, .int .i64 0, .slice none 0 0, .slice none 0 0], .int .i64 0, .int .i64 190])) w2 := ⟨_, rfl, ask0_at _, hb2w⟩
 exact bodyPost_ret (v := .tuple #[.agg #[.int .i64 0, .int .i64 0, .int .i64 0, .int .i64 0, .slice none 0 0, .slice none 0 0], .int .i64 0, .int .i64 190]) (by simp [results, Tryd.results95, go_sem, q2_0, q2_1, q2_2, q2_3, q2_4, q2_5]) rfl HP
theorem rf_none (g off n c : Nat) (fn : Int) (d : List Int) (w : World) (hB : SlI w w.heap.size .u8 (some ⟨g, off, none⟩) n c (fn :: d)) (hb8 : Byte8 (fn :: d)) (hn1 : 1 ≤ n) (hn2 : n ≤ 253) (hlim : limP fn = none) :
  Calls Tryd.prog 95 #[.slice (some ⟨g, off, none⟩) n c] w (ReadPost w (ask0, 1, 190)) := by
 obtain ⟨w1, hw1⟩ : ∃ w1, w.alloc (.cells #[.int .i64 0, .int .i64 0, .int .i64 0, .int .i64 0, .slice none 0 0, .slice none 0 0] 59) = w1 := ⟨_, rfl⟩
 have hb1 := zB1 hw1
 have hO1 := zH1 hw1
 have HW1 := Lib.hid hw1
 clear hw1
 have hu := Tryd.underlying59
 have hsz := zSz
 have hl := hB.1
 have hcap := hB.2.1
 have h1n : ((n : Int) == 0) = false := by rw [beq_eq_false_iff_ne]; omega
 have h1m : (n == 0) = false := by rw [beq_eq_false_iff_ne]; omega
 have h2n : decide ((n : Int) > 253) = false := decide_eq_false (by omega)
 have h2m : decide (253 < (n : Int)) = false := decide_eq_false (by omega)
 have h2k : ¬ (253 : Int) < (n : Int) := by omega
 have h0n : 0 < n := by omega
 have h0n' : (0 : Int) < (n : Int) := by omega
 have hfr : 0 ≤ fn ∧ fn < 256 := hb8 fn (by simp)
 have hwf : IntKind.i64.wrap fn = fn := IntWalk.i64_in fn (by omega)
 have HC0 : Hid (∀ X, Below w.heap.size w X → X.cell? ⟨g, off, none⟩ = some (.int .u8 fn)) := Lib.hid (fun X h => by
  obtain ⟨g', o', e, _, hc⟩ := (hB.up h).2.2.2.2 (by simp)
  injection e with e
  injection e with e1 e2
  subst e1 e2
  simpa using hc 0 fn rfl)
 have HKN := Lib.hid (fun (X : World) => known_any fn X)
 rw [hlim, show (none : Option (Int × Int × Int)).isSome = false from rfl] at HKN
 clear hlim hB hl
 go_in
 go_upto_region 1 with fail
 rw [HW1.out]
 have c01 := HC0.out w1 hb1
 have hb1w := hb1
 obtain ⟨o1_0, o1_1, o1_2, o1_3, o1_4, o1_5⟩ := zC6 hO1
 have fo1 := hO1.frozen
 have zo1 := hO1.lt
 go_wp2_with (go_at_call 127; (with_reducible refine (HKN.out _).mono ?_); rintro e w' ⟨rfl, rfl⟩)
 obtain ⟨w2, hw2⟩ : ∃ W, ((((((w1.setCell ⟨w.heap.size, 0, none⟩ (.int .i64 0)).setCell ⟨w.heap.size, 1, none⟩ (.int .i64 0)).setCell ⟨w.heap.size, 2, none⟩ (.int .i64 0)).setCell ⟨w.heap.size, 3, none⟩ (.int .i64 0)).setCell ⟨w.heap.size, 4, none⟩ (.slice none 0 0)).setCell ⟨w.heap.size, 5, none⟩ (.slice none 0 0)) = W := ⟨_, rfl⟩
 have hO2 : Held w2 w.heap.size 59 #[.int .i64 0, .int .i64 0, .int .i64 0, .int .i64 0, .slice none 0 0, .slice none 0 0] := by rw [← hw2]; exact ((((((hO1.set 0 _).set 1 _).set 2 _).set 3 _).set 4 _).set 5 _)
 have hb2w : Below w.heap.size w w2 := by rw [← hw2]; exact ((((((hb1w.setCell (p := ⟨w.heap.size, 0, none⟩) (Nat.le_refl _) _).setCell (p := ⟨w.heap.size, 1, none⟩) (Nat.le_refl _) _).setCell (p := ⟨w.heap.size, 2, none⟩) (Nat.le_refl _) _).setCell (p := ⟨w.heap.size, 3, none⟩) (Nat.le_refl _) _).setCell (p := ⟨w.heap.size, 4, none⟩) (Nat.le_refl _) _).setCell (p := ⟨w.heap.size, 5, none⟩) (Nat.le_refl _) _)
 have hoff2 : OffB w1 w2 w.heap.size := by rw [← hw2]; exact ((((((OffB.refl _ w.heap.size).set 0 _).set 1 _).set 2 _).set 3 _).set 4 _).set 5 _
 rw [hw2]
 clear hw2
 obtain ⟨q2_0, q2_1, q2_2, q2_3, q2_4, q2_5⟩ := zC6 hO2
 have fq2 := hO2.frozen
 have zq2 := hO2.lt
 have HP : ReadPost w (ask0, 1, 190) (.returned (.tuple #[.agg #[.int .i64 0, .int .i64 0, .int .i64 0, .int .i64 0, .slice none 0 0, .slice none 0 0], .int .i64 1, .int .i64 190])) w2 := ⟨_, rfl, ask0_at _, hb2w⟩
 exact bodyPost_ret (v := .tuple #[.agg #[.int .i64 0, .int .i64 0, .int .i64 0, .int .i64 0, .slice none 0 0, .slice none 0 0], .int .i64 1, .int .i64 190]) (by simp [results, Tryd.results95, go_sem, q2_0, q2_1, q2_2, q2_3, q2_4, q2_5]) rfl HP
theorem rf_bad (g off n c : Nat) (fn : Int) (d : List Int) (w : World) (hB : SlI w w.heap.size .u8 (some ⟨g, off, none⟩) n c (fn :: d)) (hb8 : Byte8 (fn :: d)) (hn1 : 1 ≤ n) (hn2 : n ≤ 253) (r bt rg : Int) (hlim : limP fn = some (r, bt, rg)) (hgs : ∀ X, Below w.heap.size w X → Calls Tryd.prog 128 #[.slice (some ⟨g, off, none⟩) n c] X (FPost X none)) :
  Calls Tryd.prog 95 #[.slice (some ⟨g, off, none⟩) n c] w (ReadPost w (ask0, 3, 190)) := by
 obtain ⟨w1, hw1⟩ : ∃ w1, w.alloc (.cells #[.int .i64 0, .int .i64 0, .int .i64 0, .int .i64 0, .slice none 0 0, .slice none 0 0] 59) = w1 := ⟨_, rfl⟩
 have hb1 := zB1 hw1
 have hO1 := zH1 hw1
 have HW1 := Lib.hid hw1
 clear hw1
 have hu := Tryd.underlying59
 have hsz := zSz
 have hl := hB.1
 have hcap := hB.2.1
 have h1n : ((n : Int) == 0) = false := by rw [beq_eq_false_iff_ne]; omega
 have h1m : (n == 0) = false := by rw [beq_eq_false_iff_ne]; omega
 have h2n : decide ((n : Int) > 253) = false := decide_eq_false (by omega)
 have h2m : decide (253 < (n : Int)) = false := decide_eq_false (by omega)
 have h2k : ¬ (253 : Int) < (n : Int) := by omega
 have h0n : 0 < n := by omega
 have h0n' : (0 : Int) < (n : Int) := by omega
 have hfr : 0 ≤ fn ∧ fn < 256 := hb8 fn (by simp)
 have hwf : IntKind.i64.wrap fn = fn := IntWalk.i64_in fn (by omega)
 have HC0 : Hid (∀ X, Below w.heap.size w X → X.cell? ⟨g, off, none⟩ = some (.int .u8 fn)) := Lib.hid (fun X h => by
  obtain ⟨g', o', e, _, hc⟩ := (hB.up h).2.2.2.2 (by simp)
  injection e with e
  injection e with e1 e2
  subst e1 e2
  simpa using hc 0 fn rfl)
 have HKN := Lib.hid (fun (X : World) => known_any fn X)
 rw [hlim, show (some (r, bt, rg) : Option (Int × Int × Int)).isSome = true from rfl] at HKN
 have HG : Hid (∀ X, Below w.heap.size w X → Calls Tryd.prog 128 #[.slice (some ⟨g, off, none⟩) n c] X fun e w' => ∃ pf pa pc pt Ab nb cb Ar nr cr, e = .returned (.tuple #[.agg #[.int .i64 pf, .int .i64 pa, .int .i64 pc, .int .i64 pt, .slice Ab nb cb, .slice Ar nr cr], .bool false]) ∧ Below X.heap.size X w') := Lib.hid (fun X h => by
  have h1 := hgs X h
  refine h1.mono ?_
  intro e w' h2
  obtain ⟨v, a, rfl, ⟨Ab, nb, cb, Ar, nr, cr, rfl, sb, sr⟩, hb⟩ := h2
  exact ⟨_, _, _, _, Ab, nb, cb, Ar, nr, cr, rfl, hb⟩)
 clear hgs hB hl
 go_in
 go_upto_region 1 with fail
 rw [HW1.out]
 have c01 := HC0.out w1 hb1
 have hb1w := hb1
 obtain ⟨o1_0, o1_1, o1_2, o1_3, o1_4, o1_5⟩ := zC6 hO1
 have fo1 := hO1.frozen
 have zo1 := hO1.lt
 go_wp2_with (go_at_call 127; (with_reducible refine (HKN.out _).mono ?_); rintro e w' ⟨rfl, rfl⟩)
 refine (HG.out w1 hb1).mono ?_
 rintro e w2 ⟨pf, pa, pc, pt, Ab, nb, cb, Ar, nr, cr, rfl, hb2⟩
 have hb2w := hb1.trans (hb2.mono hb1.size)
 have hO2 := hO1.below hb2 hO1.lt
 obtain ⟨w3, hw3⟩ : ∃ W, w2.alloc (.cells #[.int .i64 pf, .int .i64 pa, .int .i64 pc, .int .i64 pt, .slice Ab nb cb, .slice Ar nr cr] 59) = W := ⟨_, rfl⟩
 have hb3 := zB1 hw3
 have hb3w := hb2w.trans (hb3.mono hb2w.size)
 have hO3 := hO2.below hb3 hO2.lt
 have hA3 := zH1 hw3
 go_upto_region 6 with fail
 clear hw3
 obtain ⟨gA, hgA⟩ : ∃ x, w2.heap.size = x := ⟨_, rfl⟩
 rw [hgA] at hA3
 rw [hgA]
 have HLA : Hid (w.heap.size < gA) := Lib.hid (by have := hO2.lt; omega)
 clear hgA
 obtain ⟨o3_0, o3_1, o3_2, o3_3, o3_4, o3_5⟩ := zC6 hO3
 have fo3 := hO3.frozen
 have zo3 := hO3.lt
 clear hlim
 go_wp2_with fail
 obtain ⟨w4, hw4⟩ : ∃ W, ((((((w3.setCell ⟨w.heap.size, 0, none⟩ (.int .i64 0)).setCell ⟨w.heap.size, 1, none⟩ (.int .i64 0)).setCell ⟨w.heap.size, 2, none⟩ (.int .i64 0)).setCell ⟨w.heap.size, 3, none⟩ (.int .i64 0)).setCell ⟨w.heap.size, 4, none⟩ (.slice none 0 0)).setCell ⟨w.heap.size, 5, none⟩ (.slice none 0 0)) = W := ⟨_, rfl⟩
 have hO4 : Held w4 w.heap.size 59 #[.int .i64 0, .int .i64 0, .int .i64 0, .int .i64 0, .slice none 0 0, .slice none 0 0] := by rw [← hw4]; exact ((((((hO3.set 0 _).set 1 _).set 2 _).set 3 _).set 4 _).set 5 _)
 have hb4w : Below w.heap.size w w4 := by rw [← hw4]; exact ((((((hb3w.setCell (p := ⟨w.heap.size, 0, none⟩) (Nat.le_refl _) _).setCell (p := ⟨w.heap.size, 1, none⟩) (Nat.le_refl _) _).setCell (p := ⟨w.heap.size, 2, none⟩) (Nat.le_refl _) _).setCell (p := ⟨w.heap.size, 3, none⟩) (Nat.le_refl _) _).setCell (p := ⟨w.heap.size, 4, none⟩) (Nat.le_refl _) _).setCell (p := ⟨w.heap.size, 5, none⟩) (Nat.le_refl _) _)
 have hoff4 : OffB w3 w4 w.heap.size := by rw [← hw4]; exact ((((((OffB.refl _ w.heap.size).set 0 _).set 1 _).set 2 _).set 3 _).set 4 _).set 5 _
 rw [hw4]
 clear hw4
 obtain ⟨q4_0, q4_1, q4_2, q4_3, q4_4, q4_5⟩ := zC6 hO4
 have fq4 := hO4.frozen
 have zq4 := hO4.lt
 have HP : ReadPost w (ask0, 3, 190) (.returned (.tuple #[.agg #[.int .i64 0, .int .i64 0, .int .i64 0, .int .i64 0, .slice none 0 0, .slice none 0 0], .int .i64 3, .int .i64 190])) w4 := ⟨_, rfl, ask0_at _, hb4w⟩
 exact bodyPost_ret (v := .tuple #[.agg #[.int .i64 0, .int .i64 0, .int .i64 0, .int .i64 0, .slice none 0 0, .slice none 0 0], .int .i64 3, .int .i64 190]) (by simp [results, Tryd.results95, go_sem, q4_0, q4_1, q4_2, q4_3, q4_4, q4_5]) rfl HP
theorem rf_lim (g off n c : Nat) (fn : Int) (d : List Int) (w : World) (hB : SlI w w.heap.size .u8 (some ⟨g, off, none⟩) n c (fn :: d)) (hb8 : Byte8 (fn :: d)) (hn1 : 1 ≤ n) (hn2 : n ≤ 253) (r bt rg : Int) (hlim : limP fn = some (r, bt, rg)) (pa pc pt : Int) (bits : List Bool) (regs : List Int) (hgs : ∀ X, Below w.heap.size w X → Calls Tryd.prog 128 #[.slice (some ⟨g, off, none⟩) n c] X (FPost X (some (⟨fn, pa, pc, pt, bits, regs⟩ : AskP)))) (hml : limitsP (⟨fn, pa, pc, pt, bits, regs⟩ : AskP) = false) :
  Calls Tryd.prog 95 #[.slice (some ⟨g, off, none⟩) n c] w (ReadPost w (ask0, 3, 190)) := by
 obtain ⟨w1, hw1⟩ : ∃ w1, w.alloc (.cells #[.int .i64 0, .int .i64 0, .int .i64 0, .int .i64 0, .slice none 0 0, .slice none 0 0] 59) = w1 := ⟨_, rfl⟩
 have hb1 := zB1 hw1
 have hO1 := zH1 hw1
 have HW1 := Lib.hid hw1
 clear hw1
 have hu := Tryd.underlying59
 have hsz := zSz
 have hl := hB.1
 have hcap := hB.2.1
 have h1n : ((n : Int) == 0) = false := by rw [beq_eq_false_iff_ne]; omega
 have h1m : (n == 0) = false := by rw [beq_eq_false_iff_ne]; omega
 have h2n : decide ((n : Int) > 253) = false := decide_eq_false (by omega)
 have h2m : decide (253 < (n : Int)) = false := decide_eq_false (by omega)
 have h2k : ¬ (253 : Int) < (n : Int) := by omega
 have h0n : 0 < n := by omega
 have h0n' : (0 : Int) < (n : Int) := by omega
 have hfr : 0 ≤ fn ∧ fn < 256 := hb8 fn (by simp)
 have hwf : IntKind.i64.wrap fn = fn := IntWalk.i64_in fn (by omega)
 have HC0 : Hid (∀ X, Below w.heap.size w X → X.cell? ⟨g, off, none⟩ = some (.int .u8 fn)) := Lib.hid (fun X h => by
  obtain ⟨g', o', e, _, hc⟩ := (hB.up h).2.2.2.2 (by simp)
  injection e with e
  injection e with e1 e2
  subst e1 e2
  simpa using hc 0 fn rfl)
 have HKN := Lib.hid (fun (X : World) => known_any fn X)
 rw [hlim, show (some (r, bt, rg) : Option (Int × Int × Int)).isSome = true from rfl] at HKN
 have HG : Hid (∀ X, Below w.heap.size w X → Calls Tryd.prog 128 #[.slice (some ⟨g, off, none⟩) n c] X fun e w' => ∃ Ab nb cb Ar nr cr, e = .returned (.tuple #[.agg #[.int .i64 fn, .int .i64 pa, .int .i64 pc, .int .i64 pt, .slice Ab nb cb, .slice Ar nr cr], .bool true]) ∧ SlB w' w'.heap.size Ab nb cb bits ∧ SlI w' w'.heap.size .u16 Ar nr cr regs ∧ Below X.heap.size X w') := Lib.hid (fun X h => by
  have h1 := hgs X h
  refine h1.mono ?_
  intro e w' h2
  obtain ⟨v, a, rfl, ⟨Ab, nb, cb, Ar, nr, cr, rfl, sb, sr⟩, hb⟩ := h2
  exact ⟨Ab, nb, cb, Ar, nr, cr, rfl, sb, sr, hb⟩)
 clear hgs hB hl
 go_in
 go_upto_region 1 with fail
 rw [HW1.out]
 have c01 := HC0.out w1 hb1
 have hb1w := hb1
 obtain ⟨o1_0, o1_1, o1_2, o1_3, o1_4, o1_5⟩ := zC6 hO1
 have fo1 := hO1.frozen
 have zo1 := hO1.lt
 go_wp2_with (go_at_call 127; (with_reducible refine (HKN.out _).mono ?_); rintro e w' ⟨rfl, rfl⟩)
 refine (HG.out w1 hb1).mono ?_
 rintro e w2 ⟨Ab, nb, cb, Ar, nr, cr, rfl, sb2, sr2, hb2⟩
 have hb2w := hb1.trans (hb2.mono hb1.size)
 have hO2 := hO1.below hb2 hO1.lt
 obtain ⟨w3, hw3⟩ : ∃ W, w2.alloc (.cells #[.int .i64 fn, .int .i64 pa, .int .i64 pc, .int .i64 pt, .slice Ab nb cb, .slice Ar nr cr] 59) = W := ⟨_, rfl⟩
 have hb3 := zB1 hw3
 have hb3w := hb2w.trans (hb3.mono hb2w.size)
 have hO3 := hO2.below hb3 hO2.lt
 have hA3 := zH1 hw3
 go_upto_region 6 with fail
 clear hw3
 obtain ⟨gA, hgA⟩ : ∃ x, w2.heap.size = x := ⟨_, rfl⟩
 rw [hgA] at hA3
 rw [hgA]
 have HLA : Hid (w.heap.size < gA) := Lib.hid (by have := hO2.lt; omega)
 clear hgA
 obtain ⟨o3_0, o3_1, o3_2, o3_3, o3_4, o3_5⟩ := zC6 hO3
 have fo3 := hO3.frozen
 have zo3 := hO3.lt
 have HLM : Hid (∀ X, Calls Tryd.prog 129 #[.agg #[.int .i64 fn, .int .i64 pa, .int .i64 pc, .int .i64 pt, .slice Ab nb cb, .slice Ar nr cr]] X fun e w' => e = .returned (.bool false) ∧ Below X.heap.size X w') := Lib.hid (fun X => by
  have h1 := limits_any fn pa pc pt Ab nb cb Ar nr cr X r bt rg hlim
  have h2 : (fitP pc r && fitP (nb : Int) bt && fitP (nr : Int) rg) = limitsP (⟨fn, pa, pc, pt, bits, regs⟩ : AskP) := by
   have e : limitsP (⟨fn, pa, pc, pt, bits, regs⟩ : AskP) = (match limP fn with | none => false | some (r, b, g) => fitP pc r && fitP bits.length b && fitP regs.length g) := rfl
   rw [e, hlim, ← sb2.1, ← sr2.1]
  rw [h2, hml] at h1
  exact h1)
 clear hlim hml
 go_wp2_with (first | ((with_reducible refine at_loadT 59 5 ?_); refine wpList_load_rowG rfl 59 (.tmp 5) rfl gA rfl 59 _ _ hA3 hu rfl hsz ?_) | (go_at_call 129; (with_reducible refine (HLM.out _).mono ?_); rintro e w4 ⟨rfl, hb4⟩; have hb4w := hb3w.trans (hb4.mono hb3w.size); have hO4 := hO3.below hb4 hO3.lt; have hA4 := hA3.below hb4 hA3.lt; have o4_0 : w4.cell? ⟨w.heap.size, 0, none⟩ = some (.int .i64 0) := hO4.cell 0; have o4_1 : w4.cell? ⟨w.heap.size, 1, none⟩ = some (.int .i64 0) := hO4.cell 1; have o4_2 : w4.cell? ⟨w.heap.size, 2, none⟩ = some (.int .i64 0) := hO4.cell 2; have o4_3 : w4.cell? ⟨w.heap.size, 3, none⟩ = some (.int .i64 0) := hO4.cell 3; have o4_4 : w4.cell? ⟨w.heap.size, 4, none⟩ = some (.slice none 0 0) := hO4.cell 4; have o4_5 : w4.cell? ⟨w.heap.size, 5, none⟩ = some (.slice none 0 0) := hO4.cell 5; have fo4 := hO4.frozen; have zo4 := hO4.lt))
 obtain ⟨w5, hw5⟩ : ∃ W, ((((((w4.setCell ⟨w.heap.size, 0, none⟩ (.int .i64 0)).setCell ⟨w.heap.size, 1, none⟩ (.int .i64 0)).setCell ⟨w.heap.size, 2, none⟩ (.int .i64 0)).setCell ⟨w.heap.size, 3, none⟩ (.int .i64 0)).setCell ⟨w.heap.size, 4, none⟩ (.slice none 0 0)).setCell ⟨w.heap.size, 5, none⟩ (.slice none 0 0)) = W := ⟨_, rfl⟩
 have hO5 : Held w5 w.heap.size 59 #[.int .i64 0, .int .i64 0, .int .i64 0, .int .i64 0, .slice none 0 0, .slice none 0 0] := by rw [← hw5]; exact ((((((hO4.set 0 _).set 1 _).set 2 _).set 3 _).set 4 _).set 5 _)
 have hb5w : Below w.heap.size w w5 := by rw [← hw5]; exact ((((((hb4w.setCell (p := ⟨w.heap.size, 0, none⟩) (Nat.le_refl _) _).setCell (p := ⟨w.heap.size, 1, none⟩) (Nat.le_refl _) _).setCell (p := ⟨w.heap.size, 2, none⟩) (Nat.le_refl _) _).setCell (p := ⟨w.heap.size, 3, none⟩) (Nat.le_refl _) _).setCell (p := ⟨w.heap.size, 4, none⟩) (Nat.le_refl _) _).setCell (p := ⟨w.heap.size, 5, none⟩) (Nat.le_refl _) _)
 have hoff5 : OffB w4 w5 w.heap.size := by rw [← hw5]; exact ((((((OffB.refl _ w.heap.size).set 0 _).set 1 _).set 2 _).set 3 _).set 4 _).set 5 _
 rw [hw5]
 clear hw5
 obtain ⟨q5_0, q5_1, q5_2, q5_3, q5_4, q5_5⟩ := zC6 hO5
 have fq5 := hO5.frozen
 have zq5 := hO5.lt
 have HP : ReadPost w (ask0, 3, 190) (.returned (.tuple #[.agg #[.int .i64 0, .int .i64 0, .int .i64 0, .int .i64 0, .slice none 0 0, .slice none 0 0], .int .i64 3, .int .i64 190])) w5 := ⟨_, rfl, ask0_at _, hb5w⟩
 exact bodyPost_ret (v := .tuple #[.agg #[.int .i64 0, .int .i64 0, .int .i64 0, .int .i64 0, .slice none 0 0, .slice none 0 0], .int .i64 3, .int .i64 190]) (by simp [results, Tryd.results95, go_sem, q5_0, q5_1, q5_2, q5_3, q5_4, q5_5]) rfl HP
theorem rf_not (g off n c : Nat) (fn : Int) (d : List Int) (w : World) (hB : SlI w w.heap.size .u8 (some ⟨g, off, none⟩) n c (fn :: d)) (hb8 : Byte8 (fn :: d)) (hn1 : 1 ≤ n) (hn2 : n ≤ 253) (r bt rg : Int) (hlim : limP fn = some (r, bt, rg)) (pa pc pt : Int) (bits : List Bool) (regs : List Int) (hgs : ∀ X, Below w.heap.size w X → Calls Tryd.prog 128 #[.slice (some ⟨g, off, none⟩) n c] X (FPost X (some (⟨fn, pa, pc, pt, bits, regs⟩ : AskP)))) (hml : limitsP (⟨fn, pa, pc, pt, bits, regs⟩ : AskP) = true) (hmy : mayP (⟨fn, pa, pc, pt, bits, regs⟩ : AskP) = false) :
  Calls Tryd.prog 95 #[.slice (some ⟨g, off, none⟩) n c] w (ReadPost w (ask0, 2, 190)) := by
 obtain ⟨w1, hw1⟩ : ∃ w1, w.alloc (.cells #[.int .i64 0, .int .i64 0, .int .i64 0, .int .i64 0, .slice none 0 0, .slice none 0 0] 59) = w1 := ⟨_, rfl⟩
 have hb1 := zB1 hw1
 have hO1 := zH1 hw1
 have HW1 := Lib.hid hw1
 clear hw1
 have hu := Tryd.underlying59
 have hsz := zSz
 have hl := hB.1
 have hcap := hB.2.1
 have h1n : ((n : Int) == 0) = false := by rw [beq_eq_false_iff_ne]; omega
 have h1m : (n == 0) = false := by rw [beq_eq_false_iff_ne]; omega
 have h2n : decide ((n : Int) > 253) = false := decide_eq_false (by omega)
 have h2m : decide (253 < (n : Int)) = false := decide_eq_false (by omega)
 have h2k : ¬ (253 : Int) < (n : Int) := by omega
 have h0n : 0 < n := by omega
 have h0n' : (0 : Int) < (n : Int) := by omega
 have hfr : 0 ≤ fn ∧ fn < 256 := hb8 fn (by simp)
 have hwf : IntKind.i64.wrap fn = fn := IntWalk.i64_in fn (by omega)
 have HC0 : Hid (∀ X, Below w.heap.size w X → X.cell? ⟨g, off, none⟩ = some (.int .u8 fn)) := Lib.hid (fun X h => by
  obtain ⟨g', o', e, _, hc⟩ := (hB.up h).2.2.2.2 (by simp)
  injection e with e
  injection e with e1 e2
  subst e1 e2
  simpa using hc 0 fn rfl)
 have HKN := Lib.hid (fun (X : World) => known_any fn X)
 rw [hlim, show (some (r, bt, rg) : Option (Int × Int × Int)).isSome = true from rfl] at HKN
 have HG : Hid (∀ X, Below w.heap.size w X → Calls Tryd.prog 128 #[.slice (some ⟨g, off, none⟩) n c] X fun e w' => ∃ Ab nb cb Ar nr cr, e = .returned (.tuple #[.agg #[.int .i64 fn, .int .i64 pa, .int .i64 pc, .int .i64 pt, .slice Ab nb cb, .slice Ar nr cr], .bool true]) ∧ SlB w' w'.heap.size Ab nb cb bits ∧ SlI w' w'.heap.size .u16 Ar nr cr regs ∧ Below X.heap.size X w') := Lib.hid (fun X h => by
  have h1 := hgs X h
  refine h1.mono ?_
  intro e w' h2
  obtain ⟨v, a, rfl, ⟨Ab, nb, cb, Ar, nr, cr, rfl, sb, sr⟩, hb⟩ := h2
  exact ⟨Ab, nb, cb, Ar, nr, cr, rfl, sb, sr, hb⟩)
 clear hgs hB hl
 go_in
 go_upto_region 1 with fail
 rw [HW1.out]
 have c01 := HC0.out w1 hb1
 have hb1w := hb1
 obtain ⟨o1_0, o1_1, o1_2, o1_3, o1_4, o1_5⟩ := zC6 hO1
 have fo1 := hO1.frozen
 have zo1 := hO1.lt
 go_wp2_with (go_at_call 127; (with_reducible refine (HKN.out _).mono ?_); rintro e w' ⟨rfl, rfl⟩)
 refine (HG.out w1 hb1).mono ?_
 rintro e w2 ⟨Ab, nb, cb, Ar, nr, cr, rfl, sb2, sr2, hb2⟩
 have hb2w := hb1.trans (hb2.mono hb1.size)
 have hO2 := hO1.below hb2 hO1.lt
 obtain ⟨w3, hw3⟩ : ∃ W, w2.alloc (.cells #[.int .i64 fn, .int .i64 pa, .int .i64 pc, .int .i64 pt, .slice Ab nb cb, .slice Ar nr cr] 59) = W := ⟨_, rfl⟩
 have hb3 := zB1 hw3
 have hb3w := hb2w.trans (hb3.mono hb2w.size)
 have hO3 := hO2.below hb3 hO2.lt
 have hA3 := zH1 hw3
 go_upto_region 6 with fail
 clear hw3
 obtain ⟨gA, hgA⟩ : ∃ x, w2.heap.size = x := ⟨_, rfl⟩
 rw [hgA] at hA3
 rw [hgA]
 have HLA : Hid (w.heap.size < gA) := Lib.hid (by have := hO2.lt; omega)
 clear hgA
 obtain ⟨o3_0, o3_1, o3_2, o3_3, o3_4, o3_5⟩ := zC6 hO3
 have fo3 := hO3.frozen
 have zo3 := hO3.lt
 have HLM : Hid (∀ X, Calls Tryd.prog 129 #[.agg #[.int .i64 fn, .int .i64 pa, .int .i64 pc, .int .i64 pt, .slice Ab nb cb, .slice Ar nr cr]] X fun e w' => e = .returned (.bool true) ∧ Below X.heap.size X w') := Lib.hid (fun X => by
  have h1 := limits_any fn pa pc pt Ab nb cb Ar nr cr X r bt rg hlim
  have h2 : (fitP pc r && fitP (nb : Int) bt && fitP (nr : Int) rg) = limitsP (⟨fn, pa, pc, pt, bits, regs⟩ : AskP) := by
   have e : limitsP (⟨fn, pa, pc, pt, bits, regs⟩ : AskP) = (match limP fn with | none => false | some (r, b, g) => fitP pc r && fitP bits.length b && fitP regs.length g) := rfl
   rw [e, hlim, ← sb2.1, ← sr2.1]
  rw [h2, hml] at h1
  exact h1)
 clear hlim hml
 have sb3 := (sb2.up hb3)
 have sr3 := (sr2.up hb3)
 have HMY : Hid (∀ X, Below w3.heap.size w3 X → Calls Tryd.prog 115 #[.agg #[.int .i64 fn, .int .i64 pa, .int .i64 pc, .int .i64 pt, .slice Ab nb cb, .slice Ar nr cr]] X fun e w' => e = .returned (.bool false) ∧ Below X.heap.size X w') := Lib.hid (fun X h => by
  have h1 := may_any (.agg #[.int .i64 fn, .int .i64 pa, .int .i64 pc, .int .i64 pt, .slice Ab nb cb, .slice Ar nr cr]) (⟨fn, pa, pc, pt, bits, regs⟩ : AskP) X ⟨Ab, nb, cb, Ar, nr, cr, rfl, sb3.up h, sr3.up h⟩
  rw [hmy] at h1
  exact h1)
 clear hmy
 go_upto_region 8 with (first | ((with_reducible refine at_loadT 59 5 ?_); refine wpList_load_rowG rfl 59 (.tmp 5) rfl gA rfl 59 _ _ hA3 hu rfl hsz ?_) | (go_at_call 129; (with_reducible refine (HLM.out _).mono ?_); rintro e w4 ⟨rfl, hb4⟩; have hb4w := hb3w.trans (hb4.mono hb3w.size); have hO4 := hO3.below hb4 hO3.lt; have hA4 := hA3.below hb4 hA3.lt; have o4_0 : w4.cell? ⟨w.heap.size, 0, none⟩ = some (.int .i64 0) := hO4.cell 0; have o4_1 : w4.cell? ⟨w.heap.size, 1, none⟩ = some (.int .i64 0) := hO4.cell 1; have o4_2 : w4.cell? ⟨w.heap.size, 2, none⟩ = some (.int .i64 0) := hO4.cell 2; have o4_3 : w4.cell? ⟨w.heap.size, 3, none⟩ = some (.int .i64 0) := hO4.cell 3; have o4_4 : w4.cell? ⟨w.heap.size, 4, none⟩ = some (.slice none 0 0) := hO4.cell 4; have o4_5 : w4.cell? ⟨w.heap.size, 5, none⟩ = some (.slice none 0 0) := hO4.cell 5; have fo4 := hO4.frozen; have zo4 := hO4.lt))
 go_wp2_with ((with_reducible refine at_loadT 59 5 ?_); refine wpList_load_rowG rfl 59 (.tmp 5) rfl gA rfl 59 _ _ hA4 hu rfl hsz ?_)
 refine (HMY.out w4 hb4).mono ?_
 rintro e w5 ⟨rfl, hb5⟩
 have hb5w := hb4w.trans (hb5.mono hb4w.size)
 have hO5 := hO4.below hb5 hO4.lt
 have hA5 := hA4.below hb5 hA4.lt
 have o5_0 : w5.cell? ⟨w.heap.size, 0, none⟩ = some (.int .i64 0) := hO5.cell 0
 have o5_1 : w5.cell? ⟨w.heap.size, 1, none⟩ = some (.int .i64 0) := hO5.cell 1
 have o5_2 : w5.cell? ⟨w.heap.size, 2, none⟩ = some (.int .i64 0) := hO5.cell 2
 have o5_3 : w5.cell? ⟨w.heap.size, 3, none⟩ = some (.int .i64 0) := hO5.cell 3
 have o5_4 : w5.cell? ⟨w.heap.size, 4, none⟩ = some (.slice none 0 0) := hO5.cell 4
 have o5_5 : w5.cell? ⟨w.heap.size, 5, none⟩ = some (.slice none 0 0) := hO5.cell 5
 have fo5 := hO5.frozen
 have zo5 := hO5.lt
 go_wp2_with fail
 obtain ⟨w6, hw6⟩ : ∃ W, ((((((w5.setCell ⟨w.heap.size, 0, none⟩ (.int .i64 0)).setCell ⟨w.heap.size, 1, none⟩ (.int .i64 0)).setCell ⟨w.heap.size, 2, none⟩ (.int .i64 0)).setCell ⟨w.heap.size, 3, none⟩ (.int .i64 0)).setCell ⟨w.heap.size, 4, none⟩ (.slice none 0 0)).setCell ⟨w.heap.size, 5, none⟩ (.slice none 0 0)) = W := ⟨_, rfl⟩
 have hO6 : Held w6 w.heap.size 59 #[.int .i64 0, .int .i64 0, .int .i64 0, .int .i64 0, .slice none 0 0, .slice none 0 0] := by rw [← hw6]; exact ((((((hO5.set 0 _).set 1 _).set 2 _).set 3 _).set 4 _).set 5 _)
 have hb6w : Below w.heap.size w w6 := by rw [← hw6]; exact ((((((hb5w.setCell (p := ⟨w.heap.size, 0, none⟩) (Nat.le_refl _) _).setCell (p := ⟨w.heap.size, 1, none⟩) (Nat.le_refl _) _).setCell (p := ⟨w.heap.size, 2, none⟩) (Nat.le_refl _) _).setCell (p := ⟨w.heap.size, 3, none⟩) (Nat.le_refl _) _).setCell (p := ⟨w.heap.size, 4, none⟩) (Nat.le_refl _) _).setCell (p := ⟨w.heap.size, 5, none⟩) (Nat.le_refl _) _)
 have hoff6 : OffB w5 w6 w.heap.size := by rw [← hw6]; exact ((((((OffB.refl _ w.heap.size).set 0 _).set 1 _).set 2 _).set 3 _).set 4 _).set 5 _
 rw [hw6]
 clear hw6
 obtain ⟨q6_0, q6_1, q6_2, q6_3, q6_4, q6_5⟩ := zC6 hO6
 have fq6 := hO6.frozen
 have zq6 := hO6.lt
 have HP : ReadPost w (ask0, 2, 190) (.returned (.tuple #[.agg #[.int .i64 0, .int .i64 0, .int .i64 0, .int .i64 0, .slice none 0 0, .slice none 0 0], .int .i64 2, .int .i64 190])) w6 := ⟨_, rfl, ask0_at _, hb6w⟩
 exact bodyPost_ret (v := .tuple #[.agg #[.int .i64 0, .int .i64 0, .int .i64 0, .int .i64 0, .slice none 0 0, .slice none 0 0], .int .i64 2, .int .i64 190]) (by simp [results, Tryd.results95, go_sem, q6_0, q6_1, q6_2, q6_3, q6_4, q6_5]) rfl HP
theorem rf_yes (g off n c : Nat) (fn : Int) (d : List Int) (w : World) (hB : SlI w w.heap.size .u8 (some ⟨g, off, none⟩) n c (fn :: d)) (hb8 : Byte8 (fn :: d)) (hn1 : 1 ≤ n) (hn2 : n ≤ 253) (r bt rg : Int) (hlim : limP fn = some (r, bt, rg)) (pa pc pt : Int) (bits : List Bool) (regs : List Int) (hgs : ∀ X, Below w.heap.size w X → Calls Tryd.prog 128 #[.slice (some ⟨g, off, none⟩) n c] X (FPost X (some (⟨fn, pa, pc, pt, bits, regs⟩ : AskP)))) (hml : limitsP (⟨fn, pa, pc, pt, bits, regs⟩ : AskP) = true) (hmy : mayP (⟨fn, pa, pc, pt, bits, regs⟩ : AskP) = true) :
  Calls Tryd.prog 95 #[.slice (some ⟨g, off, none⟩) n c] w (ReadPost w ((⟨fn, pa, pc, pt, bits, regs⟩ : AskP), 0, 0)) := by
 obtain ⟨w1, hw1⟩ : ∃ w1, w.alloc (.cells #[.int .i64 0, .int .i64 0, .int .i64 0, .int .i64 0, .slice none 0 0, .slice none 0 0] 59) = w1 := ⟨_, rfl⟩
 have hb1 := zB1 hw1
 have hO1 := zH1 hw1
 have HW1 := Lib.hid hw1
 clear hw1
 have hu := Tryd.underlying59
 have hsz := zSz
 have hl := hB.1
 have hcap := hB.2.1
 have h1n : ((n : Int) == 0) = false := by rw [beq_eq_false_iff_ne]; omega
 have h1m : (n == 0) = false := by rw [beq_eq_false_iff_ne]; omega
 have h2n : decide ((n : Int) > 253) = false := decide_eq_false (by omega)
 have h2m : decide (253 < (n : Int)) = false := decide_eq_false (by omega)
 have h2k : ¬ (253 : Int) < (n : Int) := by omega
 have h0n : 0 < n := by omega
 have h0n' : (0 : Int) < (n : Int) := by omega
 have hfr : 0 ≤ fn ∧ fn < 256 := hb8 fn (by simp)
 have hwf : IntKind.i64.wrap fn = fn := IntWalk.i64_in fn (by omega)
 have HC0 : Hid (∀ X, Below w.heap.size w X → X.cell? ⟨g, off, none⟩ = some (.int .u8 fn)) := Lib.hid (fun X h => by
  obtain ⟨g', o', e, _, hc⟩ := (hB.up h).2.2.2.2 (by simp)
  injection e with e
  injection e with e1 e2
  subst e1 e2
  simpa using hc 0 fn rfl)
 have HKN := Lib.hid (fun (X : World) => known_any fn X)
 rw [hlim, show (some (r, bt, rg) : Option (Int × Int × Int)).isSome = true from rfl] at HKN
 have HG : Hid (∀ X, Below w.heap.size w X → Calls Tryd.prog 128 #[.slice (some ⟨g, off, none⟩) n c] X fun e w' => ∃ Ab nb cb Ar nr cr, e = .returned (.tuple #[.agg #[.int .i64 fn, .int .i64 pa, .int .i64 pc, .int .i64 pt, .slice Ab nb cb, .slice Ar nr cr], .bool true]) ∧ SlB w' w'.heap.size Ab nb cb bits ∧ SlI w' w'.heap.size .u16 Ar nr cr regs ∧ Below X.heap.size X w') := Lib.hid (fun X h => by
  have h1 := hgs X h
  refine h1.mono ?_
  intro e w' h2
  obtain ⟨v, a, rfl, ⟨Ab, nb, cb, Ar, nr, cr, rfl, sb, sr⟩, hb⟩ := h2
  exact ⟨Ab, nb, cb, Ar, nr, cr, rfl, sb, sr, hb⟩)
 clear hgs hB hl
 go_in
 go_upto_region 1 with fail
 rw [HW1.out]
 have c01 := HC0.out w1 hb1
 have hb1w := hb1
 obtain ⟨o1_0, o1_1, o1_2, o1_3, o1_4, o1_5⟩ := zC6 hO1
 have fo1 := hO1.frozen
 have zo1 := hO1.lt
 go_wp2_with (go_at_call 127; (with_reducible refine (HKN.out _).mono ?_); rintro e w' ⟨rfl, rfl⟩)
 refine (HG.out w1 hb1).mono ?_
 rintro e w2 ⟨Ab, nb, cb, Ar, nr, cr, rfl, sb2, sr2, hb2⟩
 have hb2w := hb1.trans (hb2.mono hb1.size)
 have hO2 := hO1.below hb2 hO1.lt
 obtain ⟨w3, hw3⟩ : ∃ W, w2.alloc (.cells #[.int .i64 fn, .int .i64 pa, .int .i64 pc, .int .i64 pt, .slice Ab nb cb, .slice Ar nr cr] 59) = W := ⟨_, rfl⟩
 have hb3 := zB1 hw3
 have hb3w := hb2w.trans (hb3.mono hb2w.size)
 have hO3 := hO2.below hb3 hO2.lt
 have hA3 := zH1 hw3
 go_upto_region 6 with fail
 clear hw3
 obtain ⟨gA, hgA⟩ : ∃ x, w2.heap.size = x := ⟨_, rfl⟩
 rw [hgA] at hA3
 rw [hgA]
 have HLA : Hid (w.heap.size < gA) := Lib.hid (by have := hO2.lt; omega)
 clear hgA
 obtain ⟨o3_0, o3_1, o3_2, o3_3, o3_4, o3_5⟩ := zC6 hO3
 have fo3 := hO3.frozen
 have zo3 := hO3.lt
 have HLM : Hid (∀ X, Calls Tryd.prog 129 #[.agg #[.int .i64 fn, .int .i64 pa, .int .i64 pc, .int .i64 pt, .slice Ab nb cb, .slice Ar nr cr]] X fun e w' => e = .returned (.bool true) ∧ Below X.heap.size X w') := Lib.hid (fun X => by
  have h1 := limits_any fn pa pc pt Ab nb cb Ar nr cr X r bt rg hlim
  have h2 : (fitP pc r && fitP (nb : Int) bt && fitP (nr : Int) rg) = limitsP (⟨fn, pa, pc, pt, bits, regs⟩ : AskP) := by
   have e : limitsP (⟨fn, pa, pc, pt, bits, regs⟩ : AskP) = (match limP fn with | none => false | some (r, b, g) => fitP pc r && fitP bits.length b && fitP regs.length g) := rfl
   rw [e, hlim, ← sb2.1, ← sr2.1]
  rw [h2, hml] at h1
  exact h1)
 clear hlim hml
 have sb3 := (sb2.up hb3)
 have sr3 := (sr2.up hb3)
 have HMY : Hid (∀ X, Below w3.heap.size w3 X → Calls Tryd.prog 115 #[.agg #[.int .i64 fn, .int .i64 pa, .int .i64 pc, .int .i64 pt, .slice Ab nb cb, .slice Ar nr cr]] X fun e w' => e = .returned (.bool true) ∧ Below X.heap.size X w') := Lib.hid (fun X h => by
  have h1 := may_any (.agg #[.int .i64 fn, .int .i64 pa, .int .i64 pc, .int .i64 pt, .slice Ab nb cb, .slice Ar nr cr]) (⟨fn, pa, pc, pt, bits, regs⟩ : AskP) X ⟨Ab, nb, cb, Ar, nr, cr, rfl, sb3.up h, sr3.up h⟩
  rw [hmy] at h1
  exact h1)
 clear hmy
 go_upto_region 8 with (first | ((with_reducible refine at_loadT 59 5 ?_); refine wpList_load_rowG rfl 59 (.tmp 5) rfl gA rfl 59 _ _ hA3 hu rfl hsz ?_) | (go_at_call 129; (with_reducible refine (HLM.out _).mono ?_); rintro e w4 ⟨rfl, hb4⟩; have hb4w := hb3w.trans (hb4.mono hb3w.size); have hO4 := hO3.below hb4 hO3.lt; have hA4 := hA3.below hb4 hA3.lt; have o4_0 : w4.cell? ⟨w.heap.size, 0, none⟩ = some (.int .i64 0) := hO4.cell 0; have o4_1 : w4.cell? ⟨w.heap.size, 1, none⟩ = some (.int .i64 0) := hO4.cell 1; have o4_2 : w4.cell? ⟨w.heap.size, 2, none⟩ = some (.int .i64 0) := hO4.cell 2; have o4_3 : w4.cell? ⟨w.heap.size, 3, none⟩ = some (.int .i64 0) := hO4.cell 3; have o4_4 : w4.cell? ⟨w.heap.size, 4, none⟩ = some (.slice none 0 0) := hO4.cell 4; have o4_5 : w4.cell? ⟨w.heap.size, 5, none⟩ = some (.slice none 0 0) := hO4.cell 5; have fo4 := hO4.frozen; have zo4 := hO4.lt))
 go_wp2_with ((with_reducible refine at_loadT 59 5 ?_); refine wpList_load_rowG rfl 59 (.tmp 5) rfl gA rfl 59 _ _ hA4 hu rfl hsz ?_)
 refine (HMY.out w4 hb4).mono ?_
 rintro e w5 ⟨rfl, hb5⟩
 have hb5w := hb4w.trans (hb5.mono hb4w.size)
 have hO5 := hO4.below hb5 hO4.lt
 have hA5 := hA4.below hb5 hA4.lt
 have o5_0 : w5.cell? ⟨w.heap.size, 0, none⟩ = some (.int .i64 0) := hO5.cell 0
 have o5_1 : w5.cell? ⟨w.heap.size, 1, none⟩ = some (.int .i64 0) := hO5.cell 1
 have o5_2 : w5.cell? ⟨w.heap.size, 2, none⟩ = some (.int .i64 0) := hO5.cell 2
 have o5_3 : w5.cell? ⟨w.heap.size, 3, none⟩ = some (.int .i64 0) := hO5.cell 3
 have o5_4 : w5.cell? ⟨w.heap.size, 4, none⟩ = some (.slice none 0 0) := hO5.cell 4
 have o5_5 : w5.cell? ⟨w.heap.size, 5, none⟩ = some (.slice none 0 0) := hO5.cell 5
 have fo5 := hO5.frozen
 have zo5 := hO5.lt
 go_wp2_with ((with_reducible refine at_loadT 59 5 ?_); refine wpList_load_rowG rfl 59 (.tmp 5) rfl gA rfl 59 _ _ hA5 hu rfl hsz ?_)
 obtain ⟨w6, hw6⟩ : ∃ W, ((((((w5.setCell ⟨w.heap.size, 0, none⟩ (.int .i64 fn)).setCell ⟨w.heap.size, 1, none⟩ (.int .i64 pa)).setCell ⟨w.heap.size, 2, none⟩ (.int .i64 pc)).setCell ⟨w.heap.size, 3, none⟩ (.int .i64 pt)).setCell ⟨w.heap.size, 4, none⟩ (.slice Ab nb cb)).setCell ⟨w.heap.size, 5, none⟩ (.slice Ar nr cr)) = W := ⟨_, rfl⟩
 have hO6 : Held w6 w.heap.size 59 #[.int .i64 fn, .int .i64 pa, .int .i64 pc, .int .i64 pt, .slice Ab nb cb, .slice Ar nr cr] := by rw [← hw6]; exact ((((((hO5.set 0 _).set 1 _).set 2 _).set 3 _).set 4 _).set 5 _)
 have hb6w : Below w.heap.size w w6 := by rw [← hw6]; exact ((((((hb5w.setCell (p := ⟨w.heap.size, 0, none⟩) (Nat.le_refl _) _).setCell (p := ⟨w.heap.size, 1, none⟩) (Nat.le_refl _) _).setCell (p := ⟨w.heap.size, 2, none⟩) (Nat.le_refl _) _).setCell (p := ⟨w.heap.size, 3, none⟩) (Nat.le_refl _) _).setCell (p := ⟨w.heap.size, 4, none⟩) (Nat.le_refl _) _).setCell (p := ⟨w.heap.size, 5, none⟩) (Nat.le_refl _) _)
 have hoff6 : OffB w5 w6 w.heap.size := by rw [← hw6]; exact ((((((OffB.refl _ w.heap.size).set 0 _).set 1 _).set 2 _).set 3 _).set 4 _).set 5 _
 rw [hw6]
 clear hw6
 have sb6 := ((sb3.up hb4).up hb5).off hoff6 hO5 (by intro v hv x e; subst e; simp at hv)
 have sr6 := ((sr3.up hb4).up hb5).off hoff6 hO5 (by intro v hv x e; subst e; simp at hv)
 obtain ⟨q6_0, q6_1, q6_2, q6_3, q6_4, q6_5⟩ := zC6 hO6
 have fq6 := hO6.frozen
 have zq6 := hO6.lt
 have HP : ReadPost w ((⟨fn, pa, pc, pt, bits, regs⟩ : AskP), 0, 0) (.returned (.tuple #[.agg #[.int .i64 fn, .int .i64 pa, .int .i64 pc, .int .i64 pt, .slice Ab nb cb, .slice Ar nr cr], .int .i64 0, .int .i64 0])) w6 := ⟨_, rfl, ⟨Ab, nb, cb, Ar, nr, cr, rfl, sb6, sr6⟩, hb6w⟩
 exact bodyPost_ret (v := .tuple #[.agg #[.int .i64 fn, .int .i64 pa, .int .i64 pc, .int .i64 pt, .slice Ab nb cb, .slice Ar nr cr], .int .i64 0, .int .i64 0]) (by simp [results, Tryd.results95, go_sem, q6_0, q6_1, q6_2, q6_3, q6_4, q6_5]) rfl HP
theorem read_ref (A : Option Addr) (n c : Nat) (b : List Int) (w : World) (hB : SlI w w.heap.size .u8 A n c b) (hb8 : Byte8 b) :
  Calls Tryd.prog 95 #[.slice A n c] w (ReadPost w (readP b)) := by
 have hl := hB.1
 by_cases h0 : n = 0
 ·have e : readP b = (ask0, 0, 190) := by unfold readP; rw [if_pos (Or.inl (by omega))]
  rw [e]
  exact rf_0 A n c w h0
 by_cases h253 : 253 < n
 ·have e : readP b = (ask0, 0, 190) := by unfold readP; rw [if_pos (Or.inr (by omega))]
  rw [e]
  exact rf_l A n c w h253
 obtain ⟨g, off, rfl, hg⟩ := hB.some_ (by omega)
 obtain ⟨fn, d, rfl⟩ : ∃ x l, b = x :: l := by
  cases b with
  | nil => simp at hl; omega
  | cons x l => exact ⟨x, l, rfl⟩
 have e0 : readP (fn :: d) = match limP fn with
  | none => (ask0, 1, 190)
  | some _ => match parseP (fn :: d) with
   | none => (ask0, 3, 190)
   | some a => if mayP a then (a, 0, 0) else (ask0, 2, 190) := by
  unfold readP
  rw [if_neg (by omega)]
  rfl
 rw [e0]
 cases hlim : limP fn with
 | none => exact rf_none g off n c fn d w hB hb8 (by omega) (by omega) hlim
 | some t =>
  obtain ⟨r, bt, rg⟩ := t
  obtain ⟨o, ⟨ho, hf⟩, HG⟩ := guess_ref fn d g off n c w hB hb8 (by omega) r bt rg hlim
  cases o with
  | none =>
   have hp : parseP (fn :: d) = none := ho.symm
   rw [hp]
   exact rf_bad g off n c fn d w hB hb8 (by omega) (by omega) r bt rg hlim HG
  | some p =>
   have hpf := hf p rfl
   obtain ⟨pf, pa, pc, pt, bits, regs⟩ := p
   simp only at hpf
   subst hpf
   cases hml : limitsP ⟨pf, pa, pc, pt, bits, regs⟩ with
   | false =>
    have hp : parseP (pf :: d) = none := by rw [← ho]; simp [filt, hml]
    rw [hp]
    exact rf_lim g off n c pf d w hB hb8 (by omega) (by omega) r bt rg hlim pa pc pt bits regs HG hml
   | true =>
    have hp : parseP (pf :: d) = some ⟨pf, pa, pc, pt, bits, regs⟩ := by rw [← ho]; simp [filt, hml]
    rw [hp]
    cases hmy : mayP ⟨pf, pa, pc, pt, bits, regs⟩ with
    | false => simpa [hmy] using rf_not g off n c pf d w hB hb8 (by omega) (by omega) r bt rg hlim pa pc pt bits regs HG hml hmy
    | true => simpa [hmy] using rf_yes g off n c pf d w hB hb8 (by omega) (by omega) r bt rg hlim pa pc pt bits regs HG hml hmy
end Go.Proofs.YtcipleanckeoaaaDoor
