/- The document's guess, its limits looked at, is the parse. -/
import Derived.Test.YtcipleanckeoaaaDoorZPduGs
import Derived.Test.YtcipleanckeoaaaDoorZPduGs15
import Derived.Test.YtcipleanckeoaaaDoorZPduGs16
import Derived.Test.YtcipleanckeoaaaDoorZPduGs23
namespace Go.Proofs.YtcipleanckeoaaaDoor
open Go.RowKit
set_option linter.unusedVariables false
def filt (o : Option AskP) : Option AskP := match o with
 | none => none
 | some a => if limitsP a = true then some a else none
def GuessOK (f : Int) (b : List Int) (o : Option AskP) : Prop := filt o = parseP b ∧ ∀ a, o = some a → a.fn = f
theorem ok_none {f : Int} {b : List Int} (h : parseP b = none) : GuessOK f b none := ⟨h.symm, fun _ h => by cases h⟩
theorem ok_some {f : Int} {b : List Int} {a : AskP} (hf : a.fn = f) (h : parseP b = if limitsP a = true then some a else none) : GuessOK f b (some a) := ⟨h.symm, fun _ h => by cases h; exact hf⟩
theorem atP_cons (f : Int) (d : List Int) (i : Nat) (h : i + 2 ≤ d.length) : atP (f :: d) (i + 1) = wordP d i := by
 unfold atP
 rw [if_pos (by simp; omega)]
 rfl
theorem atP_out (f : Int) (d : List Int) (i : Nat) (h : d.length < i + 2) : atP (f :: d) (i + 1) = -1 := by
 unfold atP
 rw [if_neg (by simp; omega)]
theorem fit0 : fitP 0 0 = true := by decide
theorem fit_1 (x m : Int) (h : 1 ≤ m) : fitP x m = true ↔ 1 ≤ x ∧ x ≤ m := by
 simp only [fitP, Bool.and_eq_true, decide_eq_true_eq]
 omega
theorem ne_b {a b : Int} : (a != b) = false ↔ a = b := by simp
theorem guess_ref (fn : Int) (d : List Int) (g off n c : Nat) (w : World) (hB : SlI w w.heap.size .u8 (some ⟨g, off, none⟩) n c (fn :: d)) (hy8 : Byte8 (fn :: d)) (hn : n ≤ 1000) (r bt rg : Int) (hlim : limP fn = some (r, bt, rg)) :
  ∃ o, GuessOK fn (fn :: d) o ∧ ∀ X, Below w.heap.size w X → Calls Tryd.prog 128 #[.slice (some ⟨g, off, none⟩) n c] X (FPost X o) := by
 have hl : d.length + 1 = n := hB.1
 have hd8 : Byte8 d := fun x hx => hy8 x (by simp [hx])
 have hn0 : 0 < n := by omega
 have hfn : (fn :: d).getD 0 0 = fn := rfl
 by_cases h2 : d.length < 2
 ·exact ⟨none, ok_none (parse_short fn d (by omega)), fun X h => gs_s1 g off n c (fn :: d) X (hB.up h) hy8 hn0 hn fn hfn (by rw [atP_out fn d 0 (by omega)]; omega) none (Lib.hid rfl)⟩
 have e1 : atP (fn :: d) 1 = wordP d 0 := atP_cons fn d 0 (by omega)
 have r1 := gs_wordP_in d hd8 0 (by omega)
 by_cases h4 : d.length < 4
 ·exact ⟨none, ok_none (parse_short fn d (by omega)), fun X h => gs_s2 g off n c (fn :: d) X (hB.up h) hy8 hn0 hn fn hfn (by rw [e1]; omega) (by rw [atP_out fn d 2 (by omega)]; omega) none (Lib.hid rfl)⟩
 have e3 : atP (fn :: d) 3 = wordP d 2 := atP_cons fn d 2 (by omega)
 have r3 := gs_wordP_in d hd8 2 (by omega)
 have a1 : 0 ≤ atP (fn :: d) 3 := by rw [e3]; omega
 have a2 : atP (fn :: d) 3 ≤ 65535 := by rw [e3]; omega
 have a3 : 0 ≤ atP (fn :: d) 1 := by rw [e1]; omega
 have d4 : 4 ≤ d.length := by omega
 by_cases h5 : fn = 5
 ·subst h5
  obtain ⟨q, hq⟩ : ∃ q, (decide (d.length = 4) && ((wordP d 2 == 65280) || (wordP d 2 == 0))) = q := ⟨_, rfl⟩
  have hp := parse_5 d d4 q hq
  have hok : GuessOK 5 (5 :: d) (if q = true then some ⟨5, wordP d 0, 0, 0, [wordP d 2 == 65280], []⟩ else none) := by
   cases q
   ·exact ok_none hp
   ·exact ok_some rfl (by rw [show limitsP ⟨5, wordP d 0, 0, 0, [wordP d 2 == 65280], []⟩ = true from rfl]; exact hp)
  refine ⟨_, hok, ?_⟩
  by_cases hn5 : n = 5
  ·rw [decide_eq_true (by omega), Bool.true_and] at hq
   have hb5 : ((n : Int) == 5) = true := by rw [beq_iff_eq]; omega
   cases h1 : wordP d 2 == 65280
   ·rw [h1, Bool.false_or] at hq
    cases q
    ·exact fun X h => gs_5c g off n c (5 :: d) X (hB.up h) hy8 hn0 hn 5 hfn a1 a2 a3 rfl rfl rfl rfl rfl hb5 (by rw [e3]; exact h1) (by rw [e3]; exact hq) _ (Lib.hid rfl)
    ·exact fun X h => gs_5b g off n c (5 :: d) X (hB.up h) hy8 hn0 hn 5 hfn a1 a2 a3 rfl rfl rfl rfl rfl hb5 (by rw [e3]; exact h1) (by rw [e3]; exact hq) _ (Lib.hid (by rw [e1]))
   ·rw [h1, Bool.true_or] at hq
    subst hq
    exact fun X h => gs_5a g off n c (5 :: d) X (hB.up h) hy8 hn0 hn 5 hfn a1 a2 a3 rfl rfl rfl rfl rfl hb5 (by rw [e3]; exact h1) _ (Lib.hid (by rw [e1]))
  ·rw [decide_eq_false (by omega), Bool.false_and] at hq
   subst hq
   exact fun X h => gs_5n g off n c (5 :: d) X (hB.up h) hy8 hn0 hn 5 hfn a1 a2 a3 rfl rfl rfl rfl rfl (by rw [beq_eq_false_iff_ne]; omega) _ rfl _ (Lib.hid rfl)
 by_cases h6 : fn = 6
 ·subst h6
  have hp := parse_6 d d4 _ rfl
  have hok : GuessOK 6 (6 :: d) (if decide (d.length = 4) = true then some ⟨6, wordP d 0, 0, 0, [], [wordP d 2]⟩ else none) := by
   cases hq : decide (d.length = 4)
   ·rw [hq] at hp; exact ok_none hp
   ·rw [hq] at hp; exact ok_some rfl (by rw [show limitsP ⟨6, wordP d 0, 0, 0, [], [wordP d 2]⟩ = true from rfl]; exact hp)
  refine ⟨_, hok, fun X h => gs_6 g off n c (6 :: d) X (hB.up h) hy8 hn0 hn 6 hfn a1 a2 a3 rfl rfl rfl rfl rfl (decide (d.length = 4)) ?_ _ (Lib.hid (by rw [e1, e3]))⟩
  rw [Bool.eq_iff_iff]
  simp only [beq_iff_eq, decide_eq_true_eq]
  omega
 by_cases h15 : fn = 15
 ·subst h15
  have hp := parse_15u d d4
  have e5 : (15 :: d).getD 5 0 = d.getD 4 0 := rfl
  by_cases l6 : n < 6
  ·exact ⟨none, ok_none (by rw [hp, if_neg]; rintro ⟨-, h, -⟩; omega), fun X h => gs_15l g off n c (15 :: d) X (hB.up h) hy8 hn0 hn 15 hfn a1 a2 a3 rfl rfl rfl rfl rfl l6 none (Lib.hid rfl)⟩
  cases tx : (15 :: d).getD 5 0 != (atP (15 :: d) 3 + 7) / 8 with
  | true =>
   refine ⟨none, ok_none ?_, fun X h => gs_15x g off n c (15 :: d) X (hB.up h) hy8 hn0 hn 15 hfn a1 a2 a3 rfl rfl rfl rfl rfl (by omega) tx none (Lib.hid rfl)⟩
   rw [e3, e5] at tx
   rw [hp, if_neg]
   rintro ⟨-, -, h, -⟩
   simp at tx
   exact tx h
  | false =>
   cases ty : (n : Int) != 6 + (atP (15 :: d) 3 + 7) / 8 with
   | true =>
    refine ⟨none, ok_none ?_, fun X h => gs_15y g off n c (15 :: d) X (hB.up h) hy8 hn0 hn 15 hfn a1 a2 a3 rfl rfl rfl rfl rfl (by omega) tx ty none (Lib.hid rfl)⟩
    rw [e3] at ty
    rw [hp, if_neg]
    rintro ⟨-, -, -, h⟩
    simp at ty
    exact ty (by rw [← h]; omega)
   | false =>
    refine ⟨some ⟨15, wordP d 0, 0, 0, unpackP (d.drop 5) (wordP d 2).toNat, []⟩, ok_some rfl ?_, fun X h => gs_15g g off n c (15 :: d) X (hB.up h) hy8 hn0 hn 15 hfn a1 a2 a3 rfl rfl rfl rfl rfl (by omega) tx ty (wordP d 2).toNat (by rw [e3]; omega) _ (Lib.hid (by rw [e1]; rfl))⟩
    rw [e3, e5] at tx
    rw [e3] at ty
    have tx' := ne_b.1 tx
    have ty' := ne_b.1 ty
    have hb : limitsP ⟨15, wordP d 0, 0, 0, unpackP (d.drop 5) (wordP d 2).toNat, []⟩ = true ↔ (1 ≤ wordP d 2 ∧ wordP d 2 ≤ 1968) := by
     have e : limitsP ⟨15, wordP d 0, 0, 0, unpackP (d.drop 5) (wordP d 2).toNat, []⟩ = (fitP 0 0 && fitP ((unpackP (d.drop 5) (wordP d 2).toNat).length : Int) 1968 && fitP 0 0) := rfl
     rw [e, fit0, Bool.true_and, Bool.and_true, fit_1 _ _ (by omega), unpackP_len]
     omega
    by_cases hk : 1 ≤ wordP d 2 ∧ wordP d 2 ≤ 1968
    ·rw [if_pos (hb.2 hk), hp, if_pos ⟨hk, by omega, tx', by omega⟩]
    ·rw [if_neg (fun h => hk (hb.1 h)), hp, if_neg (fun h => hk h.1)]
 by_cases h16 : fn = 16
 ·subst h16
  have hp := parse_16u d d4
  have e5 : (16 :: d).getD 5 0 = d.getD 4 0 := rfl
  by_cases l6 : n ≤ 5
  ·exact ⟨none, ok_none (by rw [hp, if_neg]; rintro ⟨-, h, -⟩; omega), fun X h => gs_16l g off n c (16 :: d) X (hB.up h) hy8 hn0 hn 16 hfn a1 a2 a3 rfl rfl rfl rfl rfl l6 none (Lib.hid rfl)⟩
  cases tx : (16 :: d).getD 5 0 != 2 * atP (16 :: d) 3 with
  | true =>
   refine ⟨none, ok_none ?_, fun X h => gs_16x g off n c (16 :: d) X (hB.up h) hy8 hn0 hn 16 hfn a1 a2 a3 rfl rfl rfl rfl rfl (by omega) tx none (Lib.hid rfl)⟩
   rw [e3, e5] at tx
   rw [hp, if_neg]
   rintro ⟨-, -, h, -⟩
   simp at tx
   exact tx h
  | false =>
   cases ty : (n : Int) != 6 + 2 * atP (16 :: d) 3 with
   | true =>
    refine ⟨none, ok_none ?_, fun X h => gs_16y g off n c (16 :: d) X (hB.up h) hy8 hn0 hn 16 hfn a1 a2 a3 rfl rfl rfl rfl rfl (by omega) tx ty none (Lib.hid rfl)⟩
    rw [e3] at ty
    rw [hp, if_neg]
    rintro ⟨-, -, -, h⟩
    simp at ty
    exact ty (by rw [← h]; omega)
   | false =>
    refine ⟨some ⟨16, wordP d 0, 0, 0, [], wordsP (d.drop 5)⟩, ok_some rfl ?_, fun X h => gs_16g g off n c (16 :: d) X (hB.up h) hy8 hn0 hn 16 hfn a1 a2 a3 rfl rfl rfl rfl rfl (by omega) tx ty (wordP d 2).toNat (by rw [e3]; omega) _ (Lib.hid (by rw [e1]; rfl))⟩
    rw [e3, e5] at tx
    rw [e3] at ty
    have tx' := ne_b.1 tx
    have ty' := ne_b.1 ty
    have hb : limitsP ⟨16, wordP d 0, 0, 0, [], wordsP (d.drop 5)⟩ = true ↔ (1 ≤ wordP d 2 ∧ wordP d 2 ≤ 123) := by
     have e : limitsP ⟨16, wordP d 0, 0, 0, [], wordsP (d.drop 5)⟩ = (fitP 0 0 && fitP 0 0 && fitP ((wordsP (d.drop 5)).length : Int) 123) := rfl
     rw [e, fit0, Bool.true_and, Bool.true_and, fit_1 _ _ (by omega), wordsP_len, List.length_drop]
     omega
    by_cases hk : 1 ≤ wordP d 2 ∧ wordP d 2 ≤ 123
    ·rw [if_pos (hb.2 hk), hp, if_pos ⟨hk, by omega, tx', by omega⟩]
    ·rw [if_neg (fun h => hk (hb.1 h)), hp, if_neg (fun h => hk h.1)]
 by_cases h23 : fn = 23
 ·subst h23
  have hp := parse_23u d d4
  have e9 : (23 :: d).getD 9 0 = d.getD 8 0 := rfl
  by_cases l6 : d.length < 6
  ·exact ⟨none, ok_none (by rw [hp, if_neg]; rintro ⟨-, h, -⟩; omega), fun X h => gs_23t g off n c (23 :: d) X (hB.up h) hy8 hn0 hn 23 hfn a1 a2 a3 rfl rfl rfl rfl rfl (by rw [atP_out 23 d 4 (by omega)]; omega) none (Lib.hid rfl)⟩
  have e5 : atP (23 :: d) 5 = wordP d 4 := atP_cons 23 d 4 (by omega)
  have r5 := gs_wordP_in d hd8 4 (by omega)
  have b1 : 0 ≤ atP (23 :: d) 5 := by rw [e5]; omega
  have b2 : atP (23 :: d) 5 ≤ 65535 := by rw [e5]; omega
  by_cases l8 : d.length < 8
  ·exact ⟨none, ok_none (by rw [hp, if_neg]; rintro ⟨-, h, -⟩; omega), fun X h => gs_23m g off n c (23 :: d) X (hB.up h) hy8 hn0 hn 23 hfn a1 a2 a3 rfl rfl rfl rfl rfl b1 (by rw [atP_out 23 d 6 (by omega)]; omega) none (Lib.hid rfl)⟩
  have e7 : atP (23 :: d) 7 = wordP d 6 := atP_cons 23 d 6 (by omega)
  have r7 := gs_wordP_in d hd8 6 (by omega)
  have b3 : 0 ≤ atP (23 :: d) 7 := by rw [e7]; omega
  have b4 : atP (23 :: d) 7 ≤ 65535 := by rw [e7]; omega
  by_cases l9 : n ≤ 9
  ·exact ⟨none, ok_none (by rw [hp, if_neg]; rintro ⟨-, h, -⟩; omega), fun X h => gs_23l g off n c (23 :: d) X (hB.up h) hy8 hn0 hn 23 hfn a1 a2 a3 rfl rfl rfl rfl rfl b1 b2 b3 b4 l9 none (Lib.hid rfl)⟩
  cases tx : (23 :: d).getD 9 0 != 2 * atP (23 :: d) 7 with
  | true =>
   refine ⟨none, ok_none ?_, fun X h => gs_23x g off n c (23 :: d) X (hB.up h) hy8 hn0 hn 23 hfn a1 a2 a3 rfl rfl rfl rfl rfl b1 b2 b3 b4 (by omega) tx none (Lib.hid rfl)⟩
   rw [e7, e9] at tx
   rw [hp, if_neg]
   rintro ⟨-, -, -, h, -⟩
   simp at tx
   exact tx h
  | false =>
   cases ty : (n : Int) != 10 + 2 * atP (23 :: d) 7 with
   | true =>
    refine ⟨none, ok_none ?_, fun X h => gs_23y g off n c (23 :: d) X (hB.up h) hy8 hn0 hn 23 hfn a1 a2 a3 rfl rfl rfl rfl rfl b1 b2 b3 b4 (by omega) tx ty none (Lib.hid rfl)⟩
    rw [e7] at ty
    rw [hp, if_neg]
    rintro ⟨-, -, -, -, h⟩
    simp at ty
    exact ty (by rw [← h]; omega)
   | false =>
    refine ⟨some ⟨23, wordP d 0, wordP d 2, wordP d 4, [], wordsP (d.drop 9)⟩, ok_some rfl ?_, fun X h => gs_23g g off n c (23 :: d) X (hB.up h) hy8 hn0 hn 23 hfn a1 a2 a3 rfl rfl rfl rfl rfl b1 b2 b3 b4 (by omega) tx ty (wordP d 6).toNat (by rw [e7]; omega) _ (Lib.hid (by rw [e1, e3, e5]; rfl))⟩
    rw [e7, e9] at tx
    rw [e7] at ty
    have tx' := ne_b.1 tx
    have ty' := ne_b.1 ty
    have hb : limitsP ⟨23, wordP d 0, wordP d 2, wordP d 4, [], wordsP (d.drop 9)⟩ = true ↔ ((1 ≤ wordP d 2 ∧ wordP d 2 ≤ 125) ∧ (1 ≤ wordP d 6 ∧ wordP d 6 ≤ 121)) := by
     have e : limitsP ⟨23, wordP d 0, wordP d 2, wordP d 4, [], wordsP (d.drop 9)⟩ = (fitP (wordP d 2) 125 && fitP 0 0 && fitP ((wordsP (d.drop 9)).length : Int) 121) := rfl
     rw [e, fit0, Bool.and_true, Bool.and_eq_true, fit_1 _ _ (by omega), fit_1 _ _ (by omega), wordsP_len, List.length_drop]
     omega
    by_cases hk : (1 ≤ wordP d 2 ∧ wordP d 2 ≤ 125) ∧ (1 ≤ wordP d 6 ∧ wordP d 6 ≤ 121)
    ·rw [if_pos (hb.2 hk), hp, if_pos ⟨hk.1, by omega, hk.2, tx', by omega⟩]
    ·rw [if_neg (fun h => hk (hb.1 h)), hp, if_neg (fun h => hk ⟨h.1, h.2.2.1⟩)]
 have hp := parse_d fn d d4 r bt rg hlim h5 h6 h15 h16 h23
 have t5 : (fn == 5) = false := by simpa using h5
 have t6 : (fn == 6) = false := by simpa using h6
 have t15 : (fn == 15) = false := by simpa using h15
 have t16 : (fn == 16) = false := by simpa using h16
 have t23 : (fn == 23) = false := by simpa using h23
 have hz : bt = 0 ∧ rg = 0 := by
  unfold limP at hlim
  split at hlim
  ·simp at hlim; omega
  split at hlim
  ·simp at hlim; omega
  cases hlim
 obtain ⟨rfl, rfl⟩ := hz
 have hb : limitsP ⟨fn, wordP d 0, wordP d 2, 0, [], []⟩ = fitP (wordP d 2) r := by
  have e : limitsP ⟨fn, wordP d 0, wordP d 2, 0, [], []⟩ = (match limP fn with | none => false | some (r, b, g) => fitP (wordP d 2) r && fitP 0 b && fitP 0 g) := rfl
  rw [e, hlim]
  simp [fit0]
 have hok : GuessOK fn (fn :: d) (if decide (d.length = 4) = true then some ⟨fn, wordP d 0, wordP d 2, 0, [], []⟩ else none) := by
  by_cases hq : d.length = 4
  ·rw [decide_eq_true hq]
   refine ok_some rfl ?_
   rw [hb, hp]
   by_cases hk : fitP (wordP d 2) r = true
   ·rw [if_pos hk, if_pos ⟨hq, hk⟩]
   ·rw [if_neg hk, if_neg (fun h => hk h.2)]
  ·rw [decide_eq_false hq]
   exact ok_none (by rw [hp, if_neg (fun h => hq h.1)])
 refine ⟨_, hok, fun X h => gs_d g off n c (fn :: d) X (hB.up h) hy8 hn0 hn fn hfn a1 a2 a3 t5 t6 t15 t16 t23 (decide (d.length = 4)) ?_ _ (Lib.hid (by rw [e1, e3]))⟩
 rw [Bool.eq_iff_iff]
 simp only [beq_iff_eq, decide_eq_true_eq]
 omega
end Go.Proofs.YtcipleanckeoaaaDoor
