/- The document's sum of 16 bits, and what it seals. -/
import Derived.Test.YtcipleanckeoaaaDoorZRtu
import Derived.Test.YtcipleanckeoaaaDoorZPduBase
import Derived.Laws.BitsAllLaws
namespace Go.Proofs.YtcipleanckeoaaaDoor
open Go.RowKit Go.Shelf
attribute [local go_sem] Oper.semAt_some
set_option linter.unusedVariables false
set_option linter.unusedSimpArgs false
set_option maxRecDepth 100000
def docS (s : Nat) : Nat := if s % 2 = 1 then s / 2 ^^^ 40961 else s / 2
def docK (s : Nat) : Nat → Nat
 | 0 => s
 | k + 1 => docS (docK s k)
theorem docS_lt (s : Nat) (h : s < 65536) : docS s < 65536 := by
 unfold docS
 split
 ·exact Nat.xor_lt_two_pow (n := 16) (by omega) (by decide)
 ·omega
theorem docK_lt (s : Nat) (h : s < 65536) : ∀ k, docK s k < 65536
 | 0 => h
 | k + 1 => docS_lt _ (docK_lt s h k)
theorem xor_half (a b : Nat) : (a ^^^ b) / 2 = a / 2 ^^^ b / 2 := by
 have := Nat.shiftRight_xor_distrib (a := a) (b := b) (i := 1)
 simpa [Nat.shiftRight_succ] using this
theorem xor_par (a b : Nat) : (a ^^^ b) % 2 = (a + b) % 2 := by
 have h := Nat.testBit_xor (x := a) (y := b) (i := 0)
 simp only [Nat.testBit_zero] at h
 rcases Nat.mod_two_eq_zero_or_one a with ha | ha <;> rcases Nat.mod_two_eq_zero_or_one b with hb | hb <;> rcases Nat.mod_two_eq_zero_or_one (a ^^^ b) with hc | hc <;> rw [ha, hb, hc] at h <;> first | omega | (exfalso; revert h; decide)
theorem bitF_nat (x k : Nat) : (bitF (x : Int) k).1 = x / 2 ^ k % 2 := by
 unfold bitF
 have e : ((x : Int) / 2 ^ k % 2 = 1) ↔ (x / 2 ^ k % 2 = 1) := by
  have : ((x / 2 ^ k % 2 : Nat) : Int) = (x : Int) / 2 ^ k % 2 := by simp
  rw [← this]
  omega
 by_cases h : x / 2 ^ k % 2 = 1
 ·rw [if_pos (e.2 h)]; simp [h]
 ·rw [if_neg (fun q => h (e.1 q))]
  have : x / 2 ^ k % 2 = 0 := by omega
  simp [this]
theorem doc_crc (n x : Nat) : ∀ k, docK (n ^^^ x) k = crcF n (byteF (x : Int) k) ^^^ (x / 2 ^ k)
 | 0 => by simp [docK, byteF, crcF]
 | k + 1 => by
  have ih := doc_crc n x k
  rw [byteF_snoc, crcF_snoc]
  unfold docK
  rw [ih]
  generalize hc : crcF n (byteF (x : Int) k) = c
  have hb := bitF_nat x k
  have hy : x / 2 ^ (k + 1) = x / 2 ^ k / 2 := by rw [Nat.pow_succ, Nat.div_div_eq_div_mul]
  rw [hy]
  generalize x / 2 ^ k = y at *
  unfold docS crcStep
  rw [hb, xor_par, xor_half]
  by_cases h : (c + y) % 2 = 1
  ·rw [if_pos h, if_neg (by omega), Nat.xor_assoc, Nat.xor_comm (y / 2), ← Nat.xor_assoc]
  ·rw [if_neg h, if_pos (by omega)]
theorem doc_byte (n x : Nat) (hx : x < 256) : docK (n ^^^ x) 8 = crcF n (byteF (x : Int) 8) := by
 rw [doc_crc, Nat.div_eq_of_lt (by simpa using hx), Nat.xor_zero]
set_option maxHeartbeats 2000000 in
theorem dmore_any (A : Option Addr) (n c : Nat) (b : List Int) (w : World) (hS : SlI w w.heap.size .u8 A n c b) (h8 : Byte8 b) :
  Calls Tryd.prog 130 #[.int .u16 65535, .slice A n c] w fun e w' => e = .returned (.int .u16 (crcL b : Int)) ∧ w = w' := by
 have hl := hS.1
 have hm : n ≤ maxLen := Nat.le_trans hS.2.1 hS.2.2.1
 unfold maxLen at hm
 have HS := Lib.hid hS
 have H8 := Lib.hid h8
 have HL := Lib.hid hl
 clear hS hl h8
 go_in
 go_wp2_with fail
 go_loopw [0, 5] (fun s0 s5 wx => ∃ (j v : Nat), j ≤ n ∧ s5 = .int .i64 j ∧ s0 = .int .u16 (v : Int) ∧ v = crcF 65535 (bitsF (b.take j)) ∧ wx = w) (fun _ s5 _ => n - (intOf s5).toNat)
 case atStart => exact ⟨0, 65535, Nat.zero_le _, rfl, rfl, by simp [bitsF, crcF], rfl⟩
 case round =>
  obtain ⟨j, v, hj, rfl, rfl, hv, rfl⟩ := hrel
  have hv16 : v < 65536 := by rw [hv]; exact crcF_lt _ _ (by omega)
  have HV := Lib.hid hv
  clear hv
  by_cases hlt : j < n
  ·obtain ⟨x, hx⟩ : ∃ x, b[j]? = some x := ⟨_, List.getElem?_eq_getElem (by have := HL.out; omega)⟩
   obtain ⟨g, off, rfl, hg, hc⟩ := HS.out.2.2.2.2 (by have := HL.out; omega)
   have hc0 := hc j x hx
   have hx8 := H8.out x (List.mem_of_getElem? hx)
   obtain ⟨y, rfl⟩ : ∃ y : Nat, x = y := ⟨x.toNat, by omega⟩
   have hwy : IntKind.u16.wrap (y : Int) = (y : Int) := by simp only [IntKind.wrap_u16]; omega
   obtain ⟨s, hs⟩ : ∃ s : Nat, v ^^^ y = s := ⟨_, rfl⟩
   have hxr : bits BinOp.xor IntKind.u16 (v : Int) (y : Int) = (s : Int) := by rw [← hs]; exact u16_xor_nat _ _ hv16 (by omega)
   have hs16 : s < 65536 := by rw [← hs]; exact Nat.xor_lt_two_pow (n := 16) (by omega) (by omega)
   have hjI : (j : Int) < (n : Int) := by omega
   have HX := Lib.hid hx
   have HSX := Lib.hid hs
   have hwj : IntKind.i64.wrap ((j : Int) + 1) = (j : Int) + 1 := by simp only [IntKind.wrap_i64]; omega
   clear hc hx hs
   go_wp2_with fail
   go_loopw [0, 6] (fun s0 s6 wx => ∃ (k u : Nat), k ≤ 8 ∧ s6 = .int .i64 k ∧ s0 = .int .u16 (u : Int) ∧ u = docK s k ∧ wx = wr) (fun _ s6 _ => 8 - (intOf s6).toNat)
   case atStart => exact ⟨0, s, by omega, rfl, rfl, rfl, rfl⟩
   case round =>
    obtain ⟨k, u, hk, rfl, rfl, hu, rfl⟩ := hrel
    have hu16 : u < 65536 := by rw [hu]; exact docK_lt s hs16 k
    have HU := Lib.hid hu
    clear hu
    by_cases hk8 : k < 8
    ·have hkI : (k : Int) < 8 := by omega
     obtain ⟨a, ha⟩ : ∃ a : Nat, u % 2 = a := ⟨_, rfl⟩
     obtain ⟨d, hd⟩ : ∃ d : Nat, u / 2 = d := ⟨_, rfl⟩
     obtain ⟨q, hq⟩ : ∃ q : Nat, d ^^^ 40961 = q := ⟨_, rfl⟩
     have e1 : bits BinOp.and IntKind.u16 (u : Int) 1 = (a : Int) := by
      have := u16_and_nat u 1 hu16 (by omega)
      rw [Nat.and_one_is_mod, ha] at this
      exact this
     have e2 : (u : Int) / 2 = (d : Int) := by omega
     have e3 : bits BinOp.xor IntKind.u16 (d : Int) 40961 = (q : Int) := by rw [← hq]; exact u16_xor_nat _ 40961 (by omega) (by omega)
     have hwk : IntKind.i64.wrap ((k : Int) + 1) = (k : Int) + 1 := by simp only [IntKind.wrap_i64]; omega
     have HN : Hid (docK s (k + 1) = if a = 1 then q else d) := Lib.hid (by show docS (docK s k) = _; rw [← HU.out]; unfold docS; rw [ha, hd, hq])
     clear ha hd hq
     by_cases ha1 : a = 1
     ·subst ha1
      go_wp2_with fail
      exact ⟨⟨k + 1, q, by omega, by go_num, rfl, by rw [HN.out]; rfl, trivial⟩, by simp [intOf]; omega⟩
     ·have hab : ((a : Int) == 1) = false := by simp; omega
      go_wp2_with fail
      exact ⟨⟨k + 1, d, by omega, by go_num, rfl, by rw [HN.out, if_neg ha1], trivial⟩, by simp [intOf]; omega⟩
    ·obtain rfl : k = 8 := by omega
     have hu8 : u = crcF 65535 (bitsF (b.take (j + 1))) := by
      rw [HU.out, ← HSX.out, doc_byte v y (by omega), List.take_add_one, HX.out]
      show _ = crcF 65535 (bitsF (b.take j ++ [(y : Int)]))
      rw [bitsF_snoc]
      unfold crcF
      rw [List.foldl_append]
      rw [HV.out]
      rfl
     have HU8 := Lib.hid hu8
     clear hu8
     go_wp2_with fail
     exact ⟨⟨j + 1, u, by omega, by go_num, rfl, HU8.out, trivial⟩, by simp [intOf]; omega⟩
  ·obtain rfl : j = n := by omega
   rw [List.take_of_length_le (by have := HL.out; omega)] at HV
   have HV2 : Hid (v = crcL b) := Lib.hid HV.out
   go_wp2_with fail
   go_ret
   exact ⟨by rw [HV2.out]; rfl, rfl⟩
end Go.Proofs.YtcipleanckeoaaaDoor
