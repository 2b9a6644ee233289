/- A request's bytes, and the request that bytes say, undo one another; a reply's too. In plain Lean. No program in sight. -/
import Derived.Test.YtflbiichdjhaeaaDoorPduCore
namespace Go.Proofs.YtflbiichdjhaeaaDoor
open Go.RowKit

def Byte8 (l : List Int) : Prop := ∀ x ∈ l, 0 ≤ x ∧ x < 256
def Reg16 (l : List Int) : Prop := ∀ x ∈ l, 0 ≤ x ∧ x < 65536
theorem Byte8.cons {a : Int} {l : List Int} (h : Byte8 (a :: l)) : (0 ≤ a ∧ a < 256) ∧ Byte8 l := ⟨h a (by simp), fun x hx => h x (by simp [hx])⟩
theorem Byte8.mk {a : Int} {l : List Int} (ha : 0 ≤ a ∧ a < 256) (h : Byte8 l) : Byte8 (a :: l) := fun x hx => by
  rcases List.mem_cons.1 hx with rfl | hx
  · exact ha
  · exact h x hx
theorem Byte8.append {a l : List Int} (ha : Byte8 a) (h : Byte8 l) : Byte8 (a ++ l) := fun x hx => by
  rcases List.mem_append.1 hx with hx | hx
  · exact ha x hx
  · exact h x hx
theorem Byte8.nil : Byte8 [] := fun x hx => by simp at hx
theorem byte8_pack (l : List Bool) : Byte8 (packN l) := fun x hx => by
  unfold packN at hx
  obtain ⟨j, _, rfl⟩ := List.mem_map.1 hx
  exact byteOf_small l j
theorem byte8_two {n : Int} (h : 0 ≤ n ∧ n < 65536) : Byte8 (twoI n) := by
  unfold twoI
  exact Byte8.mk (by omega) (Byte8.mk (by omega) Byte8.nil)
theorem byte8_twos {l : List Int} (h : Reg16 l) : Byte8 (twosI l) := by
  induction l with
  | nil => exact Byte8.nil
  | cons a t ih => exact (byte8_two (h a (by simp))).append (ih fun x hx => h x (by simp [hx]))

theorem bsum_bit (u : List Bool) (m : Nat) : bsum u / (2 : Int) ^ m % 2 = if u.getD m false then 1 else 0 := by
  induction u generalizing m with
  | nil => simp [bsum]
  | cons a t ih =>
    cases m with
    | zero => cases a <;> simp [bsum] <;> omega
    | succ m =>
      have e : bsum (a :: t) / (2 : Int) ^ (m + 1) = bsum t / 2 ^ m := by
        rw [Int.pow_succ, Int.mul_comm, ← Int.ediv_ediv_of_nonneg (by omega)]
        congr 1
        cases a <;> simp [bsum] <;> omega
      rw [e, ih]
      simp
theorem byteOf_bit (l : List Bool) (j m : Nat) (hm : m < 8) : byteOf l j / (2 : Int) ^ m % 2 = if l.getD (8 * j + m) false then 1 else 0 := by
  unfold byteOf
  have e : ((l.drop (8 * j)).take 8).getD m false = l.getD (8 * j + m) false := by simp [List.getD, List.getElem?_drop, hm]
  rw [bsum_bit, e]
theorem packN_get (l : List Bool) (j : Nat) (h : j < (l.length + 7) / 8) : (packN l)[j]? = some (byteOf l j) := by
  unfold packN
  simp [h]
theorem bitAt_pack (l : List Bool) (i : Nat) (h : i < l.length) : bitAt (packN l) i = l[i] := by
  rw [bitAt_in _ _ (byteOf l (i / 8)) (packN_get l _ (by omega)), byteOf_bit l _ _ (by omega), show 8 * (i / 8) + i % 8 = i by omega]
  simp [List.getD, h]
theorem unpack_pack (l : List Bool) : unpackP (packN l) l.length = l := by
  apply List.ext_getElem
  · simp [unpackP]
  · intro i h1 h2
    simp [unpackP, bitAt_pack l i h2]
theorem twosI_cons (a : Int) (t : List Int) : twosI (a :: t) = a / 256 :: a % 256 :: twosI t := by simp [twosI, twoI]
theorem twosI_get (l : List Int) (k : Nat) (h : k < l.length) : (twosI l).getD (2 * k) 0 = l[k] / 256 ∧ (twosI l).getD (2 * k + 1) 0 = l[k] % 256 := by
  induction l generalizing k with
  | nil => simp at h
  | cons a t ih =>
    cases k with
    | zero => simp [twosI_cons]
    | succ k =>
      have := ih k (by simpa using h)
      rw [twosI_cons, show 2 * (k + 1) = 2 * k + 1 + 1 by omega]
      simpa using this
theorem words_twos (l : List Int) : wordsP (twosI l) = l := by
  apply List.ext_getElem
  · simp [wordsP_len, twosI_len]
  · intro k h1 h2
    simp only [wordsP, List.getElem_map, List.getElem_range, wordP]
    rw [(twosI_get l k h2).1, (twosI_get l k h2).2]
    omega
theorem wordsP_cons (a b : Int) (t : List Int) : wordsP (a :: b :: t) = (a * 256 + b) :: wordsP t := by
  unfold wordsP
  rw [show (a :: b :: t).length / 2 = t.length / 2 + 1 by simp only [List.length_cons]; omega, List.range_succ_eq_map, List.map_cons, List.map_map]
  congr 1
theorem twos_words : ∀ (n : Nat) (l : List Int), l.length = 2 * n → Byte8 l → twosI (wordsP l) = l := by
  intro n
  induction n with
  | zero => intro l h _; obtain rfl := List.length_eq_zero_iff.1 h; rfl
  | succ n ih =>
    intro l h hb
    match l, h, hb with
    | a :: b :: t, h, hb =>
      obtain ⟨ha, hb⟩ := hb.cons
      obtain ⟨hb', ht⟩ := hb.cons
      rw [wordsP_cons, twosI_cons, ih t (by simp at h; omega) ht]
      congr 1
      · omega
      · congr 1
        omega

theorem bits8 : ∀ x : Fin 256, bsum ((List.range 8).map fun m => decide ((x.1 : Int) / 2 ^ m % 2 = 1)) = (x.1 : Int) := by decide +kernel
theorem bits8' (x : Int) (h : 0 ≤ x ∧ x < 256) : bsum ((List.range 8).map fun m => decide (x / 2 ^ m % 2 = 1)) = x := by
  obtain ⟨n, rfl⟩ := Int.eq_ofNat_of_zero_le h.1
  exact bits8 ⟨n, by omega⟩
theorem pack_unpack (b : List Int) (n j : Nat) (hb : Byte8 b) (hj : 8 * j + 8 ≤ n) (hl : j < b.length) : (packN (unpackP b n))[j]? = b[j]? := by
  rw [packN_get _ _ (by rw [unpackP_len]; omega), List.getElem?_eq_getElem hl]
  congr 1
  unfold byteOf
  rw [← bits8' b[j] (hb _ (List.getElem_mem hl))]
  congr 1
  apply List.ext_getElem
  · simp [unpackP]; omega
  · intro m h1 h2
    have hm : m < 8 := by simpa using h2
    simp only [unpackP, List.getElem_take, List.getElem_drop, List.getElem_map, List.getElem_range]
    rw [bitAt_in b _ b[j] (by rw [show (8 * j + m) / 8 = j by omega]; exact List.getElem?_eq_getElem hl), show (8 * j + m) % 8 = m by omega]

/-- What may be, function by function. -/
theorem may_cases (a : AskP) (h : mayP a = true) : ((0 ≤ a.addr ∧ a.addr < 65536) ∧ 0 ≤ a.to ∧ a.to < 65536) ∧
    (((a.fn = 1 ∨ a.fn = 2) ∧ (1 ≤ a.count ∧ a.count ≤ 2000) ∧ a.bits = [] ∧ a.regs = [] ∧ a.to = 0) ∨
     ((a.fn = 3 ∨ a.fn = 4) ∧ (1 ≤ a.count ∧ a.count ≤ 125) ∧ a.bits = [] ∧ a.regs = [] ∧ a.to = 0) ∨
     (a.fn = 5 ∧ a.count = 0 ∧ (∃ b, a.bits = [b]) ∧ a.regs = [] ∧ a.to = 0) ∨
     (a.fn = 6 ∧ a.count = 0 ∧ a.bits = [] ∧ (∃ r, a.regs = [r]) ∧ a.to = 0) ∨
     (a.fn = 15 ∧ a.count = 0 ∧ (1 ≤ a.bits.length ∧ a.bits.length ≤ 1968) ∧ a.regs = [] ∧ a.to = 0) ∨
     (a.fn = 16 ∧ a.count = 0 ∧ a.bits = [] ∧ (1 ≤ a.regs.length ∧ a.regs.length ≤ 123) ∧ a.to = 0) ∨
     (a.fn = 23 ∧ (1 ≤ a.count ∧ a.count ≤ 125) ∧ a.bits = [] ∧ (1 ≤ a.regs.length ∧ a.regs.length ≤ 121))) := by
  obtain ⟨fn, addr, count, to, bits, regs⟩ := a
  simp only [mayP, limitsP, placeP, Bool.and_eq_true, Bool.or_eq_true, decide_eq_true_eq, fitP] at h ⊢
  obtain ⟨h, hp⟩ := h
  refine ⟨by omega, ?_⟩
  have one {α : Type} (l : List α) (h : l.length = 1) : ∃ b, l = [b] := by
    match l, h with
    | [b], _ => exact ⟨b, rfl⟩
  have none_ {α : Type} (l : List α) (h : l.length = 0) : l = [] := List.length_eq_zero_iff.1 h
  unfold limP at h
  by_cases e1 : fn = 1 ∨ fn = 2
  · rw [if_pos e1] at h
    simp only [Bool.and_eq_true, decide_eq_true_eq] at h
    exact .inl ⟨e1, by omega, none_ _ (by omega), none_ _ (by omega), by omega⟩
  rw [if_neg e1] at h
  by_cases e2 : fn = 3 ∨ fn = 4
  · rw [if_pos e2] at h
    simp only [Bool.and_eq_true, decide_eq_true_eq] at h
    exact .inr (.inl ⟨e2, by omega, none_ _ (by omega), none_ _ (by omega), by omega⟩)
  rw [if_neg e2] at h
  by_cases e3 : fn = 5
  · rw [if_pos e3] at h
    simp only [Bool.and_eq_true, decide_eq_true_eq] at h
    exact .inr (.inr (.inl ⟨e3, by omega, one _ (by omega), none_ _ (by omega), by omega⟩))
  rw [if_neg e3] at h
  by_cases e4 : fn = 6
  · rw [if_pos e4] at h
    simp only [Bool.and_eq_true, decide_eq_true_eq] at h
    exact .inr (.inr (.inr (.inl ⟨e4, by omega, none_ _ (by omega), one _ (by omega), by omega⟩)))
  rw [if_neg e4] at h
  by_cases e5 : fn = 15
  · rw [if_pos e5] at h
    simp only [Bool.and_eq_true, decide_eq_true_eq] at h
    exact .inr (.inr (.inr (.inr (.inl ⟨e5, by omega, by omega, none_ _ (by omega), by omega⟩))))
  rw [if_neg e5] at h
  by_cases e6 : fn = 16
  · rw [if_pos e6] at h
    simp only [Bool.and_eq_true, decide_eq_true_eq] at h
    exact .inr (.inr (.inr (.inr (.inr (.inl ⟨e6, by omega, none_ _ (by omega), by omega, by omega⟩)))))
  rw [if_neg e6] at h
  by_cases e7 : fn = 23
  · rw [if_pos e7] at h
    simp only [Bool.and_eq_true, decide_eq_true_eq] at h
    exact .inr (.inr (.inr (.inr (.inr (.inr ⟨e7, by omega, none_ _ (by omega), by omega⟩)))))
  rw [if_neg e7] at h
  cases h

theorem read_of (b : List Int) (a : AskP) (h1 : 0 < b.length) (h2 : b.length ≤ 253) (h3 : (limP (b.getD 0 0)).isSome = true) (h4 : parseP b = some a) (h5 : mayP a = true) : readP b = (a, 0, 0) := by
  obtain ⟨l, hl⟩ := Option.isSome_iff_exists.1 h3
  unfold readP
  rw [if_neg (by omega), hl, h4]
  simp only [h5, if_true]
theorem read_to (b : List Int) (h : (readP b).2.2 = 0) : ∃ a, readP b = (a, 0, 0) ∧ parseP b = some a ∧ mayP a = true ∧ b.length ≤ 253 := by
  unfold readP at h ⊢
  by_cases e : b.length = 0 ∨ 253 < b.length
  · rw [if_pos e] at h; cases h
  · rw [if_neg e] at h ⊢
    cases hl : limP (b.getD 0 0) with
    | none => rw [hl] at h; cases h
    | some l =>
      rw [hl] at h
      cases hp : parseP b with
      | none => rw [hp] at h; cases h
      | some a =>
        rw [hp] at h
        simp only at h ⊢
        by_cases hm : mayP a = true
        · exact ⟨a, by rw [if_pos hm], rfl, hm, by omega⟩
        · rw [if_neg hm] at h; cases h

theorem word1 (f a : Int) (t : List Int) : wordP (f :: a / 256 :: a % 256 :: t) 1 = a := by simp [wordP]; omega
theorem word3 (f p q a : Int) (t : List Int) : wordP (f :: p :: q :: a / 256 :: a % 256 :: t) 3 = a := by simp [wordP]; omega
theorem word5 (f p q r s a : Int) (t : List Int) : wordP (f :: p :: q :: r :: s :: a / 256 :: a % 256 :: t) 5 = a := by simp [wordP]; omega
theorem word7 (f p q r s u v a : Int) (t : List Int) : wordP (f :: p :: q :: r :: s :: u :: v :: a / 256 :: a % 256 :: t) 7 = a := by simp [wordP]; omega

/-- A request's bytes say it. -/
theorem read_bytes (a : AskP) (h : mayP a = true) : readP (bytesP a) = (a, 0, 0) ∧ 0 < (bytesP a).length ∧ (bytesP a).length ≤ 253 ∧ (bytesP a).getD 0 0 = a.fn ∧ 1 ≤ a.fn ∧ a.fn ≤ 23 := by
  obtain ⟨hp, hc⟩ := may_cases a h
  obtain ⟨fn, addr, count, to, bits, regs⟩ := a
  simp only at hc hp
  rcases hc with ⟨e, hn, rfl, rfl, rfl⟩ | ⟨e, hn, rfl, rfl, rfl⟩ | ⟨rfl, rfl, ⟨b, rfl⟩, rfl, rfl⟩ | ⟨rfl, rfl, rfl, ⟨r, rfl⟩, rfl⟩ | ⟨rfl, rfl, hn, rfl, rfl⟩ | ⟨rfl, rfl, rfl, hn, rfl⟩ | ⟨rfl, hn, rfl, hm⟩
  · have hb : bytesP ⟨fn, addr, count, 0, [], []⟩ = [fn, addr / 256, addr % 256, count / 256, count % 256] := by
      unfold bytesP
      simp only
      rw [if_neg (by omega), if_neg (by omega), if_neg (by omega), if_neg (by omega), if_neg (by omega)]
      rfl
    rw [hb]
    have hl : limP fn = some (2000, 0, 0) := by unfold limP; rw [if_pos e]
    refine ⟨read_of _ _ (by simp) (by simp) (by rw [List.getD_cons_zero, hl]; rfl) ?_ h, by simp, by simp, rfl, by dsimp only; omega, by dsimp only; omega⟩
    unfold parseP
    simp only [word1, word3, List.getD_cons_zero]
    rw [if_neg (by simp), if_neg (by omega), if_neg (by omega), if_neg (by omega), if_neg (by omega), if_neg (by omega), hl]
    simp only
    rw [if_pos ⟨rfl, by simp [fitP]; omega⟩]
  · have hb : bytesP ⟨fn, addr, count, 0, [], []⟩ = [fn, addr / 256, addr % 256, count / 256, count % 256] := by
      unfold bytesP
      simp only
      rw [if_neg (by omega), if_neg (by omega), if_neg (by omega), if_neg (by omega), if_neg (by omega)]
      rfl
    rw [hb]
    have hl : limP fn = some (125, 0, 0) := by unfold limP; rw [if_neg (by omega), if_pos e]
    refine ⟨read_of _ _ (by simp) (by simp) (by rw [List.getD_cons_zero, hl]; rfl) ?_ h, by simp, by simp, rfl, by dsimp only; omega, by dsimp only; omega⟩
    unfold parseP
    simp only [word1, word3, List.getD_cons_zero]
    rw [if_neg (by simp), if_neg (by omega), if_neg (by omega), if_neg (by omega), if_neg (by omega), if_neg (by omega), hl]
    simp only
    rw [if_pos ⟨rfl, by simp [fitP]; omega⟩]
  · have hb : bytesP ⟨5, addr, 0, 0, [b], []⟩ = [5, addr / 256, addr % 256, (if b then 65280 else 0 : Int) / 256, (if b then 65280 else 0 : Int) % 256] := by
      cases b <;> rfl
    rw [hb]
    refine ⟨read_of _ _ (by simp) (by simp) rfl ?_ h, by simp, by simp, rfl, by dsimp only; omega, by dsimp only; omega⟩
    unfold parseP
    simp only [word1, word3, List.getD_cons_zero]
    rw [if_neg (by simp), if_pos (by trivial), if_pos ⟨rfl, by cases b <;> simp⟩]
    cases b <;> simp
  · have hb : bytesP ⟨6, addr, 0, 0, [], [r]⟩ = [6, addr / 256, addr % 256, r / 256, r % 256] := rfl
    rw [hb]
    refine ⟨read_of _ _ (by simp) (by simp) rfl ?_ h, by simp, by simp, rfl, by dsimp only; omega, by dsimp only; omega⟩
    unfold parseP
    simp only [word1, word3, List.getD_cons_zero]
    rw [if_neg (by simp), if_neg (by omega), if_pos (by trivial), if_pos (by trivial)]
  · have hb : bytesP ⟨15, addr, 0, 0, bits, []⟩ = 15 :: addr / 256 :: addr % 256 :: (bits.length : Int) / 256 :: (bits.length : Int) % 256 :: ((packN bits).length : Int) :: packN bits := rfl
    rw [hb]
    have hpl := packN_len bits
    refine ⟨read_of _ _ (by simp) (by simp only [List.length_cons]; omega) rfl ?_ h, by simp, by simp only [List.length_cons]; omega, rfl, by dsimp only; omega, by dsimp only; omega⟩
    unfold parseP
    simp only [word1, word3, List.getD_cons_zero, List.getD_cons_succ, List.drop_succ_cons, List.drop_zero, List.length_cons]
    rw [if_neg (by omega), if_neg (by omega), if_neg (by omega), if_pos (by trivial), if_pos ⟨by omega, by omega, by first | trivial | omega, by omega⟩, Int.toNat_natCast, unpack_pack]
  · have hb : bytesP ⟨16, addr, 0, 0, [], regs⟩ = 16 :: addr / 256 :: addr % 256 :: (regs.length : Int) / 256 :: (regs.length : Int) % 256 :: (2 * regs.length : Int) :: twosI regs := rfl
    rw [hb]
    have hpl := twosI_len regs
    refine ⟨read_of _ _ (by simp) (by simp only [List.length_cons]; omega) rfl ?_ h, by simp, by simp only [List.length_cons]; omega, rfl, by dsimp only; omega, by dsimp only; omega⟩
    unfold parseP
    simp only [word1, word3, List.getD_cons_zero, List.getD_cons_succ, List.drop_succ_cons, List.drop_zero, List.length_cons]
    rw [if_neg (by omega), if_neg (by omega), if_neg (by omega), if_neg (by omega), if_pos (by trivial), if_pos ⟨by omega, by omega, by first | trivial | omega, by omega⟩, words_twos]
  · have hb : bytesP ⟨23, addr, count, to, [], regs⟩ = 23 :: addr / 256 :: addr % 256 :: count / 256 :: count % 256 :: to / 256 :: to % 256 :: (regs.length : Int) / 256 :: (regs.length : Int) % 256 :: (2 * regs.length : Int) :: twosI regs := rfl
    rw [hb]
    have hpl := twosI_len regs
    refine ⟨read_of _ _ (by simp) (by simp only [List.length_cons]; omega) rfl ?_ h, by simp, by simp only [List.length_cons]; omega, rfl, by dsimp only; omega, by dsimp only; omega⟩
    unfold parseP
    simp only [word1, word3, word5, word7, List.getD_cons_zero, List.getD_cons_succ, List.drop_succ_cons, List.drop_zero, List.length_cons]
    rw [if_neg (by omega), if_neg (by omega), if_neg (by omega), if_neg (by omega), if_neg (by omega), if_pos (by trivial), if_pos ⟨by omega, by omega, by omega, by first | trivial | omega, by omega⟩, words_twos]

theorem byte8_bytes (a : AskP) (h : mayP a = true) (hr : Reg16 a.regs) : Byte8 (bytesP a) := by
  obtain ⟨hp, hc⟩ := may_cases a h
  obtain ⟨fn, addr, count, to, bits, regs⟩ := a
  simp only at hc hp hr
  have two1 := byte8_two hp.1
  have two2 := byte8_two hp.2
  unfold bytesP
  simp only
  rcases hc with ⟨e, hn, rfl, rfl, rfl⟩ | ⟨e, hn, rfl, rfl, rfl⟩ | ⟨rfl, rfl, ⟨b, rfl⟩, rfl, rfl⟩ | ⟨rfl, rfl, rfl, ⟨r, rfl⟩, rfl⟩ | ⟨rfl, rfl, hn, rfl, rfl⟩ | ⟨rfl, rfl, rfl, hn, rfl⟩ | ⟨rfl, hn, rfl, hm⟩
  · rw [if_neg (by omega), if_neg (by omega), if_neg (by omega), if_neg (by omega), if_neg (by omega)]
    exact (Byte8.mk (by omega) two1).append (byte8_two (by omega))
  · rw [if_neg (by omega), if_neg (by omega), if_neg (by omega), if_neg (by omega), if_neg (by omega)]
    exact (Byte8.mk (by omega) two1).append (byte8_two (by omega))
  · rw [if_pos rfl]
    refine (Byte8.mk (by omega) two1).append ?_
    cases b
    · exact Byte8.mk (by omega) (Byte8.mk (by omega) Byte8.nil)
    · exact Byte8.mk (by omega) (Byte8.mk (by omega) Byte8.nil)
  · rw [if_neg (by omega), if_pos rfl]
    exact (Byte8.mk (by omega) two1).append (byte8_two (hr r (by simp)))
  · rw [if_neg (by omega), if_neg (by omega), if_pos rfl]
    have := packN_len bits
    exact ((Byte8.mk (by omega) two1).append (byte8_two (by omega))).append (Byte8.mk (by omega) (byte8_pack bits))
  · rw [if_neg (by omega), if_neg (by omega), if_neg (by omega), if_pos rfl]
    exact ((Byte8.mk (by omega) two1).append (byte8_two (by omega))).append (Byte8.mk (by omega) (byte8_twos hr))
  · rw [if_neg (by omega), if_neg (by omega), if_neg (by omega), if_neg (by omega), if_pos rfl]
    exact ((((Byte8.mk (by omega) two1).append (byte8_two (by omega))).append two2).append (byte8_two (by omega))).append (Byte8.mk (by omega) (byte8_twos hr))

theorem five {b : List Int} (h : ¬ b.length < 5) : ∃ f p1 p2 p3 p4 t, b = f :: p1 :: p2 :: p3 :: p4 :: t := by
  match b with
  | f :: p1 :: p2 :: p3 :: p4 :: t => exact ⟨_, _, _, _, _, _, rfl⟩
  | [] => simp at h
  | [_] => simp at h
  | [_, _] => simp at h
  | [_, _, _] => simp at h
  | [_, _, _, _] => simp at h
theorem onel {t : List Int} (h : 0 < t.length) : ∃ p l, t = p :: l := by
  match t with
  | p :: l => exact ⟨_, _, rfl⟩
  | [] => simp at h
theorem fivel {t : List Int} (h : 5 ≤ t.length) : ∃ p5 p6 p7 p8 p9 l, t = p5 :: p6 :: p7 :: p8 :: p9 :: l := five (by omega)
/-- What bytes say has these bytes, but for bits behind the last one. -/
theorem bytes_read (b : List Int) (q : AskP) (h : parseP b = some q) (hb : Byte8 b) :
    (bytesP q).length = b.length ∧ (q.fn ≠ 15 → bytesP q = b) ∧ (∀ i, i + 1 < b.length → (bytesP q)[i]? = b[i]?) ∧ Reg16 q.regs := by
  unfold parseP at h
  by_cases e0 : b.length < 5
  · simp only [if_pos e0] at h; cases h
  simp only [if_neg e0] at h
  · obtain ⟨f, p1, p2, p3, p4, t, rfl⟩ := five e0
    obtain ⟨hf, hbA⟩ := hb.cons
    obtain ⟨h1, hbB⟩ := hbA.cons
    obtain ⟨h2, hbC⟩ := hbB.cons
    obtain ⟨h3, hbD⟩ := hbC.cons
    obtain ⟨h4, hbE⟩ := hbD.cons
    clear hb hbA hbB hbC hbD
    have w1 : wordP (f :: p1 :: p2 :: p3 :: p4 :: t) 1 = p1 * 256 + p2 := rfl
    have w3 : wordP (f :: p1 :: p2 :: p3 :: p4 :: t) 3 = p3 * 256 + p4 := rfl
    simp only [w1, w3, List.getD_cons_zero, List.getD_cons_succ, List.length_cons, List.drop_succ_cons] at h
    have t1 : twoI (p1 * 256 + p2) = [p1, p2] := by unfold twoI; congr 1; omega; congr 1; omega
    have t3 : twoI (p3 * 256 + p4) = [p3, p4] := by unfold twoI; congr 1; omega; congr 1; omega
    have fin {q' : List Int} {l : List Int} (e : q' = l) (rr : Reg16 q.regs) : q'.length = l.length ∧ (q.fn ≠ 15 → q' = l) ∧ (∀ i, i + 1 < l.length → q'[i]? = l[i]?) ∧ Reg16 q.regs := by
      subst e
      exact ⟨rfl, fun _ => rfl, fun _ _ => rfl, rr⟩
    have rnil : Reg16 [] := fun x hx => by simp at hx
    have rwords : ∀ (l : List Int), Byte8 l → Reg16 (wordsP l) := by
      intro l hl x hx
      unfold wordsP at hx
      obtain ⟨k, hk, rfl⟩ := List.mem_map.1 hx
      rw [List.mem_range] at hk
      have a1 := hl _ (List.getElem_mem (show 2 * k < l.length by omega))
      have a2 := hl _ (List.getElem_mem (show 2 * k + 1 < l.length by omega))
      have b1 : l.getD (2 * k) 0 = l[2 * k]'(by omega) := by simp [List.getD, show 2 * k < l.length by omega]
      have b2 : l.getD (2 * k + 1) 0 = l[2 * k + 1]'(by omega) := by simp [List.getD, show 2 * k + 1 < l.length by omega]
      unfold wordP
      rw [b1, b2]
      omega
    have even {l : List Int} {m : Int} {c : Nat} (hl : ((l.length + c : Nat) : Int) = c + 2 * m) (hbl : Byte8 l) : twosI (wordsP l) = l ∧ ((wordsP l).length : Int) = m := by
      refine ⟨twos_words m.toNat l (by omega) hbl, ?_⟩
      rw [wordsP_len]
      omega
    by_cases e1 : f = 5
    · rw [if_pos e1] at h
      split at h
      · rename_i c
        injection h with h
        subst h e1
        obtain rfl : t = [] := List.length_eq_zero_iff.1 (by omega)
        refine fin ?_ rnil
        unfold bytesP
        simp only [if_true, t1, List.getD_cons_zero]
        rcases c.2 with c | c
        · rw [if_pos (by simpa using c)]
          obtain rfl : p3 = 255 := by omega
          obtain rfl : p4 = 0 := by omega
          rfl
        · rw [if_neg (by simp; omega)]
          obtain rfl : p3 = 0 := by omega
          obtain rfl : p4 = 0 := by omega
          rfl
      · cases h
    rw [if_neg e1] at h
    by_cases e2 : f = 6
    · rw [if_pos e2] at h
      split at h
      · rename_i c
        injection h with h
        subst h e2
        obtain rfl : t = [] := List.length_eq_zero_iff.1 (by omega)
        refine fin ?_ (fun x hx => by simp at hx; omega)
        unfold bytesP
        rw [if_neg (by dsimp only; decide), if_pos rfl]
        simp only [t1, List.getD_cons_zero, t3]
        rfl
      · cases h
    rw [if_neg e2] at h
    by_cases e3 : f = 15
    · rw [if_pos e3] at h
      split at h
      · rename_i c
        injection h with h
        subst h e3
        obtain ⟨c1, c2, c3, c4⟩ := c
        · obtain ⟨p5, t, rfl⟩ := onel (t := t) (by omega)
          obtain ⟨h5, hbF⟩ := hbE.cons
          simp only [List.getD_cons_zero, List.length_cons, List.drop_succ_cons, List.drop_zero] at c3 c4 ⊢
          obtain ⟨n, hn⟩ : ∃ n : Nat, p3 * 256 + p4 = (n : Int) := ⟨(p3 * 256 + p4).toNat, by omega⟩
          have e : bytesP ⟨15, p1 * 256 + p2, 0, 0, unpackP t (p3 * 256 + p4).toNat, []⟩ = 15 :: p1 :: p2 :: p3 :: p4 :: p5 :: packN (unpackP t n) := by
            unfold bytesP
            rw [if_neg (by dsimp only; decide), if_neg (by dsimp only; decide), if_pos rfl]
            simp only [unpackP_len, packN_len, t1, hn, Int.toNat_natCast]
            rw [← hn, t3, show (((n + 7) / 8 : Nat) : Int) = p5 by omega]
            rfl
          rw [e]
          have hpl : (packN (unpackP t n)).length = t.length := by rw [packN_len, unpackP_len]; omega
          refine ⟨by simp [hpl], fun h => absurd rfl h, fun i hi => ?_, rnil⟩
          match i, hi with
          | 0, _ => rfl
          | 1, _ => rfl
          | 2, _ => rfl
          | 3, _ => rfl
          | 4, _ => rfl
          | 5, _ => rfl
          | i + 6, hi =>
            simp only [List.getElem?_cons_succ]
            exact pack_unpack t n i hbF (by omega) (by omega)
      · cases h
    rw [if_neg e3] at h
    by_cases e4 : f = 16
    · rw [if_pos e4] at h
      split at h
      · rename_i c
        injection h with h
        subst h e4
        obtain ⟨c1, c2, c3, c4⟩ := c
        · obtain ⟨p5, t, rfl⟩ := onel (t := t) (by omega)
          obtain ⟨h5, hbF⟩ := hbE.cons
          simp only [List.getD_cons_zero, List.length_cons] at c3 c4
          obtain ⟨d1, d2⟩ := even (l := t) (m := p3 * 256 + p4) (c := 6) (by omega) hbF
          refine fin ?_ (rwords t hbF)
          simp only [List.drop_succ_cons, List.drop_zero]
          unfold bytesP
          rw [if_neg (by dsimp only; decide), if_neg (by dsimp only; decide), if_neg (by dsimp only; decide), if_pos rfl]
          simp only [t1, d1, d2, t3]
          rw [← c3]
          rfl
      · cases h
    rw [if_neg e4] at h
    by_cases e5 : f = 23
    · rw [if_pos e5] at h
      split at h
      · rename_i c
        injection h with h
        subst h e5
        obtain ⟨c1, c2, c5, c3, c4⟩ := c
        · obtain ⟨p5, p6, p7, p8, p9, t, rfl⟩ := fivel (t := t) (by omega)
          obtain ⟨h5, hbF⟩ := hbE.cons
          obtain ⟨h6, hbG⟩ := hbF.cons
          obtain ⟨h7, hbH⟩ := hbG.cons
          obtain ⟨h8, hbI⟩ := hbH.cons
          obtain ⟨h9, hbJ⟩ := hbI.cons
          have w5 : wordP (23 :: p1 :: p2 :: p3 :: p4 :: p5 :: p6 :: p7 :: p8 :: p9 :: t) 5 = p5 * 256 + p6 := rfl
          have w7 : wordP (23 :: p1 :: p2 :: p3 :: p4 :: p5 :: p6 :: p7 :: p8 :: p9 :: t) 7 = p7 * 256 + p8 := rfl
          have t5 : twoI (p5 * 256 + p6) = [p5, p6] := by unfold twoI; congr 1; omega; congr 1; omega
          have t7 : twoI (p7 * 256 + p8) = [p7, p8] := by unfold twoI; congr 1; omega; congr 1; omega
          simp only [w7, List.getD_cons_zero, List.getD_cons_succ, List.length_cons] at c3 c4 c5
          obtain ⟨d1, d2⟩ := even (l := t) (m := p7 * 256 + p8) (c := 10) (by omega) hbJ
          refine fin ?_ (rwords t hbJ)
          simp only [w5, List.drop_succ_cons, List.drop_zero]
          unfold bytesP
          rw [if_neg (by dsimp only; decide), if_neg (by dsimp only; decide), if_neg (by dsimp only; decide), if_neg (by dsimp only; decide), if_pos rfl]
          simp only [t1, d1, d2, t3, t5, t7]
          rw [← c3]
          rfl
      · cases h
    rw [if_neg e5] at h
    cases hl : limP f with
    | none => rw [hl] at h; cases h
    | some l =>
      rw [hl] at h
      obtain ⟨r, u, v⟩ := l
      simp only at h
      split at h
      · rename_i c
        injection h with h
        subst h
        obtain rfl : t = [] := List.length_eq_zero_iff.1 (by omega)
        refine fin ?_ rnil
        unfold bytesP
        rw [if_neg e1, if_neg e2, if_neg e3, if_neg e4, if_neg e5]
        simp only [t1, t3]
        rfl
      · cases h

/-- Two requests that may be have the same bytes just if they are the same. -/
theorem bytes_inj (a b : AskP) (ha : mayP a = true) (hb : mayP b = true) : (bytesP a = bytesP b) ↔ a = b := by
  constructor
  · intro h
    have h1 := (read_bytes a ha).1
    have h2 := (read_bytes b hb).1
    rw [h, h2] at h1
    injection h1 with h1
    exact h1.symm
  · intro h; rw [h]

/-- A reply's bytes say it. -/
theorem reply_read (a : AskP) (r : RepP) (x : List Int) (hr : Reg16 r.regs) (ha : Reg16 a.regs) (h : answerP a r = some x) :
    readAnswerP a x = some r ∧ 2 ≤ x.length ∧ x.length ≤ 253 ∧ Byte8 x ∧ (128 ≤ x.getD 0 0 ↔ 0 < r.code) := by
  have h' := h
  unfold answerP at h
  by_cases e0 : mayP a = false ∨ r.fn ≠ a.fn
  · rw [if_pos e0] at h; cases h
  rw [if_neg e0] at h
  have hm : mayP a = true := by
    cases hh : mayP a
    · exact absurd (.inl hh) e0
    · rfl
  have hfn : r.fn = a.fn := Decidable.byContradiction fun hh => e0 (.inr hh)
  clear e0
  obtain ⟨hp, hc⟩ := may_cases a hm
  have hrb := read_bytes a hm
  have hb8 := byte8_bytes a hm ha
  have main (hg : guessR a x = r) (h2 : 2 ≤ x.length) : readAnswerP a x = some r := by
    unfold readAnswerP
    rw [if_neg (by omega), hg, h', if_pos rfl]
  have f23 : 1 ≤ a.fn ∧ a.fn ≤ 23 := hrb.2.2.2.2
  by_cases e1 : r.code ≠ 0
  · rw [if_pos e1] at h
    by_cases e2 : r.code < 1 ∨ 11 < r.code ∨ 0 < r.bits.length + r.regs.length
    · rw [if_pos e2] at h; cases h
    · rw [if_neg e2] at h
      injection h with h
      subst h
      refine ⟨main ?_ (by simp), by simp, by simp, Byte8.mk (by omega) (Byte8.mk (by omega) Byte8.nil), by simp; omega⟩
      unfold guessR
      rw [if_pos (by rfl)]
      obtain ⟨f, c, bs, rs⟩ := r
      simp only at hfn e2 ⊢
      obtain rfl : bs = [] := List.length_eq_zero_iff.1 (by omega)
      obtain rfl : rs = [] := List.length_eq_zero_iff.1 (by omega)
      rw [hfn]
      rfl
  rw [if_neg e1] at h
  by_cases e3 : (r.bits.length : Int) ≠ wantB a ∨ (r.regs.length : Int) ≠ wantR a
  · rw [if_pos e3] at h; cases h
  rw [if_neg e3] at h
  have k1 : (r.bits.length : Int) = wantB a := Decidable.byContradiction fun hh => e3 (.inl hh)
  have k2 : (r.regs.length : Int) = wantR a := Decidable.byContradiction fun hh => e3 (.inr hh)
  clear e3
  unfold wantB at k1
  unfold wantR at k2
  obtain ⟨f, c, bs, rs⟩ := r
  simp only at hfn e1 k1 k2 h hr ⊢ main
  obtain rfl : c = 0 := by omega
  subst hfn
  by_cases c1 : a.fn = 1 ∨ a.fn = 2
  · rw [if_pos c1] at h k1
    rw [if_neg (by omega)] at k2
    injection h with h
    subst h
    obtain rfl : rs = [] := List.length_eq_zero_iff.1 (by omega)
    have hpl := packN_len bs
    have hcount : a.count ≤ 2000 := by omega
    refine ⟨main ?_ (by simp), by simp, by simp only [List.length_cons]; omega, Byte8.mk (by omega) (Byte8.mk (by omega) (byte8_pack bs)), by simp; omega⟩
    unfold guessR
    simp only [List.getD_cons_zero, List.drop_succ_cons, List.drop_zero]
    rw [if_neg (by omega), if_pos (by omega), ← k1, Int.toNat_natCast, unpack_pack]
  rw [if_neg c1] at h k1
  obtain rfl : bs = [] := List.length_eq_zero_iff.1 (by omega)
  by_cases c2 : a.fn = 5 ∨ a.fn = 6
  · rw [if_pos c2] at h
    rw [if_neg (by omega)] at k2
    obtain rfl : rs = [] := List.length_eq_zero_iff.1 (by omega)
    injection h with h
    subst h
    have h5 : 5 ≤ (bytesP a).length := by
      unfold bytesP
      rcases c2 with c2 | c2
      · rw [if_pos c2]; split <;> simp [twoI]
      · rw [if_neg (by omega), if_pos c2]; simp [twoI]
    refine ⟨main ?_ (by omega), by omega, hrb.2.2.1, hb8, by rw [hrb.2.2.2.1]; omega⟩
    unfold guessR
    rw [hrb.2.2.2.1, if_neg (by omega), if_neg (by omega), if_neg (by omega)]
  rw [if_neg c2] at h
  by_cases c3 : a.fn = 15 ∨ a.fn = 16
  · rw [if_pos c3] at h
    rw [if_neg (by omega)] at k2
    obtain rfl : rs = [] := List.length_eq_zero_iff.1 (by omega)
    injection h with h
    subst h
    have hbl : a.bits.length + a.regs.length ≤ 1968 := by
      rcases hc with ⟨e, _⟩ | ⟨e, _⟩ | ⟨e, _⟩ | ⟨e, _⟩ | ⟨_, _, hn, hn2, _⟩ | ⟨_, _, hn2, hn, _⟩ | ⟨e, _⟩
      · omega
      · omega
      · omega
      · omega
      · rw [hn2]; simp; omega
      · rw [hn2]; simp; omega
      · omega
    refine ⟨main ?_ (by simp [twoI]), by simp [twoI], by simp [twoI], (Byte8.mk (by omega) (byte8_two hp.1)).append (byte8_two (by omega)), by simp; omega⟩
    unfold guessR
    simp only [List.cons_append, List.getD_cons_zero]
    rw [if_neg (by omega), if_neg (by omega), if_neg (by omega)]
  rw [if_neg c3] at h
  injection h with h
  subst h
  have c4 : a.fn = 3 ∨ a.fn = 4 ∨ a.fn = 23 := by
    rcases hc with ⟨e, _⟩ | ⟨e, _⟩ | ⟨e, _⟩ | ⟨e, _⟩ | ⟨e, _⟩ | ⟨e, _⟩ | ⟨e, _⟩ <;> omega
  rw [if_pos c4] at k2
  have hcount : a.count ≤ 125 := by
    rcases hc with ⟨e, _⟩ | ⟨e, h, _⟩ | ⟨e, _⟩ | ⟨e, _⟩ | ⟨e, _⟩ | ⟨e, _⟩ | ⟨e, h, _⟩ <;> omega
  have hpl := twosI_len rs
  refine ⟨main ?_ (by simp), by simp, by simp only [List.length_cons]; omega, Byte8.mk (by omega) (Byte8.mk (by omega) (byte8_twos hr)), by simp; omega⟩
  unfold guessR
  simp only [List.getD_cons_zero, List.drop_succ_cons, List.drop_zero, List.length_cons]
  rw [if_neg (by omega), if_neg (by omega), if_pos (by omega), if_pos (by omega), words_twos]
theorem reply_back (a : AskP) (b : List Int) (q : RepP) (h : readAnswerP a b = some q) : answerP a q = some b := by
  unfold readAnswerP at h
  by_cases e : b.length < 2
  · rw [if_pos e] at h; cases h
  · rw [if_neg e] at h
    by_cases e2 : answerP a (guessR a b) = some b
    · rw [if_pos e2] at h
      injection h with h
      rw [← h]
      exact e2
    · rw [if_neg e2] at h; cases h
end Go.Proofs.YtflbiichdjhaeaaDoor
