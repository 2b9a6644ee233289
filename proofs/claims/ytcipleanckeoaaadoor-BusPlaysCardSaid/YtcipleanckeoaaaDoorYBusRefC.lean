/- The document's frame of bytes. -/
import Derived.Test.YtcipleanckeoaaaDoorYTk
import Derived.Test.YtcipleanckeoaaaDoorYBusRefB
import Derived.Test.YtcipleanckeoaaaDoorYPduFrom
import Derived.Deep.Cut
import Derived.Test.YtcipleanckeoaaaDoorYRtu
import Derived.Test.YtcipleanckeoaaaDoorYPduBase
import Derived.Laws.BitsAllLaws
set_option maxRecDepth 100000
set_option maxHeartbeats 40000000
namespace Go.Proofs.YtcipleanckeoaaaDoor
open Go.RowKit Go.Shelf
attribute [local go_sem] Oper.semAt_some
set_option linter.unusedVariables false
set_option linter.unusedSimpArgs false
def docS (s : Nat) : Nat := if s % 2 = 1 then s / 2 ^^^ 40961 else s / 2
def docK (s : Nat) : Nat → Nat
 | 0 => s
 | k + 1 => docS (docK s k)
theorem docS_lt (s : Nat) (h : s < 65536) : docS s < 65536 := by
 unfold docS
 split
 ·exact Nat.xor_lt_two_pow (n := 16) (by omega) (by decide)
 ·omega
theorem docK_lt (s : Nat) (h : s < 65536) : ∀ k, docK s k < 65536
 | 0 => h
 | k + 1 => docS_lt _ (docK_lt s h k)
theorem xor_half (a b : Nat) : (a ^^^ b) / 2 = a / 2 ^^^ b / 2 := by
 have := Nat.shiftRight_xor_distrib (a := a) (b := b) (i := 1)
 simpa [Nat.shiftRight_succ] using this
theorem xor_par (a b : Nat) : (a ^^^ b) % 2 = (a + b) % 2 := by
 have h := Nat.testBit_xor (x := a) (y := b) (i := 0)
 simp only [Nat.testBit_zero] at h
 rcases Nat.mod_two_eq_zero_or_one a with ha | ha <;> rcases Nat.mod_two_eq_zero_or_one b with hb | hb <;> rcases Nat.mod_two_eq_zero_or_one (a ^^^ b) with hc | hc <;> rw [ha, hb, hc] at h <;> first | omega | (exfalso; revert h; decide)
theorem bitF_nat (x k : Nat) : (bitF (x : Int) k).1 = x / 2 ^ k % 2 := by
 unfold bitF
 have e : ((x : Int) / 2 ^ k % 2 = 1) ↔ (x / 2 ^ k % 2 = 1) := by
  have : ((x / 2 ^ k % 2 : Nat) : Int) = (x : Int) / 2 ^ k % 2 := by simp
  rw [← this]
  omega
 by_cases h : x / 2 ^ k % 2 = 1
 ·rw [if_pos (e.2 h)]; simp [h]
 ·rw [if_neg (fun q => h (e.1 q))]
  have : x / 2 ^ k % 2 = 0 := by omega
  simp [this]
theorem doc_crc (n x : Nat) : ∀ k, docK (n ^^^ x) k = crcF n (byteF (x : Int) k) ^^^ (x / 2 ^ k)
 | 0 => by simp [docK, byteF, crcF]
 | k + 1 => by
  have ih := doc_crc n x k
  rw [byteF_snoc, crcF_snoc]
  unfold docK
  rw [ih]
  generalize hc : crcF n (byteF (x : Int) k) = c
  have hb := bitF_nat x k
  have hy : x / 2 ^ (k + 1) = x / 2 ^ k / 2 := by rw [Nat.pow_succ, Nat.div_div_eq_div_mul]
  rw [hy]
  generalize x / 2 ^ k = y at *
  unfold docS crcStep
  rw [hb, xor_par, xor_half]
  by_cases h : (c + y) % 2 = 1
  ·rw [if_pos h, if_neg (by omega), Nat.xor_assoc, Nat.xor_comm (y / 2), ← Nat.xor_assoc]
  ·rw [if_neg h, if_pos (by omega)]
theorem doc_byte (n x : Nat) (hx : x < 256) : docK (n ^^^ x) 8 = crcF n (byteF (x : Int) 8) := by
 rw [doc_crc, Nat.div_eq_of_lt (by simpa using hx), Nat.xor_zero]
theorem dmore_any (A : Option Addr) (n c : Nat) (b : List Int) (w : World) (hS : SlI w w.heap.size .u8 A n c b) (h8 : Byte8 b) :
  Calls Tryd.prog 130 #[.int .u16 65535, .slice A n c] w fun e w' => e = .returned (.int .u16 (crcL b : Int)) ∧ w = w' := by
 have hl := hS.1
 have hm : n ≤ maxLen := Nat.le_trans hS.2.1 hS.2.2.1
 unfold maxLen at hm
 have HS := Lib.hid hS
 have H8 := Lib.hid h8
 have HL := Lib.hid hl
 clear hS hl h8
 go_in
 go_wp2_with fail
 go_loopw [0, 5] (fun s0 s5 wx => ∃ (j v : Nat), j ≤ n ∧ s5 = .int .i64 j ∧ s0 = .int .u16 (v : Int) ∧ v = crcF 65535 (bitsF (b.take j)) ∧ wx = w) (fun _ s5 _ => n - (intOf s5).toNat)
 case atStart => exact ⟨0, 65535, Nat.zero_le _, rfl, rfl, by simp [bitsF, crcF], rfl⟩
 case round =>
  obtain ⟨j, v, hj, rfl, rfl, hv, rfl⟩ := hrel
  have hv16 : v < 65536 := by rw [hv]; exact crcF_lt _ _ (by omega)
  have HV := Lib.hid hv
  clear hv
  by_cases hlt : j < n
  ·obtain ⟨x, hx⟩ : ∃ x, b[j]? = some x := ⟨_, List.getElem?_eq_getElem (by have := HL.out; omega)⟩
   obtain ⟨g, off, rfl, hg, hc⟩ := HS.out.2.2.2.2 (by have := HL.out; omega)
   have hc0 := hc j x hx
   have hx8 := H8.out x (List.mem_of_getElem? hx)
   obtain ⟨y, rfl⟩ : ∃ y : Nat, x = y := ⟨x.toNat, by omega⟩
   have hwy : IntKind.u16.wrap (y : Int) = (y : Int) := by simp only [IntKind.wrap_u16]; omega
   obtain ⟨s, hs⟩ : ∃ s : Nat, v ^^^ y = s := ⟨_, rfl⟩
   have hxr : bits BinOp.xor IntKind.u16 (v : Int) (y : Int) = (s : Int) := by rw [← hs]; exact u16_xor_nat _ _ hv16 (by omega)
   have hs16 : s < 65536 := by rw [← hs]; exact Nat.xor_lt_two_pow (n := 16) (by omega) (by omega)
   have hjI : (j : Int) < (n : Int) := by omega
   have HX := Lib.hid hx
   have HSX := Lib.hid hs
   have hwj : IntKind.i64.wrap ((j : Int) + 1) = (j : Int) + 1 := by simp only [IntKind.wrap_i64]; omega
   clear hc hx hs
   go_wp2_with fail
   go_loopw [0, 6] (fun s0 s6 wx => ∃ (k u : Nat), k ≤ 8 ∧ s6 = .int .i64 k ∧ s0 = .int .u16 (u : Int) ∧ u = docK s k ∧ wx = wr) (fun _ s6 _ => 8 - (intOf s6).toNat)
   case atStart => exact ⟨0, s, by omega, rfl, rfl, rfl, rfl⟩
   case round =>
    obtain ⟨k, u, hk, rfl, rfl, hu, rfl⟩ := hrel
    have hu16 : u < 65536 := by rw [hu]; exact docK_lt s hs16 k
    have HU := Lib.hid hu
    clear hu
    by_cases hk8 : k < 8
    ·have hkI : (k : Int) < 8 := by omega
     obtain ⟨a, ha⟩ : ∃ a : Nat, u % 2 = a := ⟨_, rfl⟩
     obtain ⟨d, hd⟩ : ∃ d : Nat, u / 2 = d := ⟨_, rfl⟩
     obtain ⟨q, hq⟩ : ∃ q : Nat, d ^^^ 40961 = q := ⟨_, rfl⟩
     have e1 : bits BinOp.and IntKind.u16 (u : Int) 1 = (a : Int) := by
      have := u16_and_nat u 1 hu16 (by omega)
      rw [Nat.and_one_is_mod, ha] at this
      exact this
     have e2 : (u : Int) / 2 = (d : Int) := by omega
     have e3 : bits BinOp.xor IntKind.u16 (d : Int) 40961 = (q : Int) := by rw [← hq]; exact u16_xor_nat _ 40961 (by omega) (by omega)
     have hwk : IntKind.i64.wrap ((k : Int) + 1) = (k : Int) + 1 := by simp only [IntKind.wrap_i64]; omega
     have HN : Hid (docK s (k + 1) = if a = 1 then q else d) := Lib.hid (by show docS (docK s k) = _; rw [← HU.out]; unfold docS; rw [ha, hd, hq])
     clear ha hd hq
     by_cases ha1 : a = 1
     ·subst ha1
      go_wp2_with fail
      exact ⟨⟨k + 1, q, by omega, by go_num, rfl, by rw [HN.out]; rfl, trivial⟩, by simp [intOf]; omega⟩
     ·have hab : ((a : Int) == 1) = false := by simp; omega
      go_wp2_with fail
      exact ⟨⟨k + 1, d, by omega, by go_num, rfl, by rw [HN.out, if_neg ha1], trivial⟩, by simp [intOf]; omega⟩
    ·obtain rfl : k = 8 := by omega
     have hu8 : u = crcF 65535 (bitsF (b.take (j + 1))) := by
      rw [HU.out, ← HSX.out, doc_byte v y (by omega), List.take_add_one, HX.out]
      show _ = crcF 65535 (bitsF (b.take j ++ [(y : Int)]))
      rw [bitsF_snoc]
      unfold crcF
      rw [List.foldl_append]
      rw [HV.out]
      rfl
     have HU8 := Lib.hid hu8
     clear hu8
     go_wp2_with fail
     exact ⟨⟨j + 1, u, by omega, by go_num, rfl, HU8.out, trivial⟩, by simp [intOf]; omega⟩
  ·obtain rfl : j = n := by omega
   rw [List.take_of_length_le (by have := HL.out; omega)] at HV
   have HV2 : Hid (v = crcL b) := Lib.hid HV.out
   go_wp2_with fail
   go_ret
   exact ⟨by rw [HV2.out]; rfl, rfl⟩
theorem dseal_any (A : Option Addr) (n c : Nat) (zs : List Int) (w : World) (hS : SlI w w.heap.size .u8 A n c zs) (hn : n ≤ 100000) (h8 : Byte8 zs) :
  Calls Tryd.prog 97 #[.slice A n c, .int .i64 16] w fun e w' => ∃ v, e = .returned v ∧ w'.ownsRow w.heap.size 5 1 v (n + 2) ((sealL zs).map (Value.int .u8)) ∧ Below w.heap.size w w' := by
 obtain ⟨i0, hi, hz0, hz1, hz2⟩ := info_parts infoB
 have H1 := Lib.hid (fun (V : World) (h : Below w.heap.size w V) => dmore_any A n c zs V (hS.up h) h8)
 have HS := Lib.hid hS
 have hlt := crcL_lt zs
 have HL := Lib.hid (show sealL zs = zs ++ [((crcL zs % 256 : Nat) : Int), ((crcL zs / 256 : Nat) : Int)] from rfl)
 have HO := Lib.hid (World.ownsRow_nil w w.heap.size 5 1)
 clear hS
 obtain ⟨v, hv⟩ : ∃ v, crcL zs = v := ⟨_, rfl⟩
 rw [hv] at H1 HL hlt
 clear hv
 obtain ⟨a, ha⟩ : ∃ a, v % 256 = a := ⟨_, rfl⟩
 obtain ⟨b, hb⟩ : ∃ b, v / 256 = b := ⟨_, rfl⟩
 rw [ha, hb] at HL
 have e1 : (v : Int) % 256 = (a : Int) := by omega
 have e2 : (v : Int) / 256 = (b : Int) := by omega
 have hb2 : b < 256 := by omega
 have HA0 := Lib.hid (show 0 + n ≤ maxLen ∧ (0 + n) * 1 ≤ 140737488355328 by unfold maxLen; omega)
 have HA1 := Lib.hid (show n + 2 ≤ maxLen ∧ (n + 2) * 1 ≤ 140737488355328 by unfold maxLen; omega)
 clear ha hb
 go_in
 go_wp2_with ((with_reducible refine at_append ?_); refine wpList_append_sl w rfl (.tmp 8) (.tmp 9) 22 rfl w.heap.size 5 i0 (.int .u8 0) 1 Tryd.underlying22 hi hz0 hz1 hz2 rfl _ 0 _ rfl HO.out w.heap.size .u8 A n c zs rfl HS.out HA0.out.1 HA0.out.2 (Nat.le_refl _) ?_; intro v2 w2 hO2 hg2 _; have hb2w := (Below.refl w.heap.size w).grown hg2 (Nat.le_refl _) (fun B hB => (HO.out.lt B hB).1); clear hg2)
 rw [List.nil_append, Nat.zero_add] at hO2
 refine (H1.out _ hb2w).mono ?_
 rintro e w3 ⟨rfl, rfl⟩
 obtain ⟨A1, c1, rfl, _⟩ := SlI.of_own hO2
 have O2 := Lib.hid hO2
 have hz2' := hb2w.size
 clear hO2
 obtain ⟨w3, hw3⟩ : ∃ Y : World, w2.alloc (.cells #[.int .u8 (a : Int), .int .u8 (b : Int)] 5) = Y := ⟨_, rfl⟩
 have hb3 : Below w.heap.size w w3 := by rw [← hw3]; exact hb2w.alloc hz2' _
 have o3 : w3.ownsRow w.heap.size 5 1 (.slice A1 n c1) n (zs.map (Value.int .u8)) := by rw [← hw3]; exact O2.out.alloc _
 have s3 : SlI w3 w3.heap.size .u8 (some ⟨w2.heap.size, 0, none⟩) 2 2 [(a : Int), (b : Int)] := by rw [← hw3]; exact SlI.of_lit rfl rfl (by omega)
 have hz3 := hb3.size
 go_wp2_with ((with_reducible refine at_append ?_); refine wpList_append_sl w3 rfl (.tmp 15) (.tmp 22) 22 rfl w.heap.size 5 i0 (.int .u8 0) 1 Tryd.underlying22 hi hz0 hz1 hz2 rfl _ n _ rfl o3 w3.heap.size .u8 (some ⟨w2.heap.size, 0, none⟩) 2 2 [(a : Int), (b : Int)] rfl s3 HA1.out.1 HA1.out.2 hz3 ?_; intro v4 w4 hO4 hg4 _; have hb4 := hb3.grown hg4 hz3 (fun B hB => (o3.lt B hB).1); clear hg4)
 go_ret
 rw [HL.out, List.map_append]
 exact ⟨_, rfl, hO4, hb4⟩
theorem dbytes_any (unit : Int) (A : Option Addr) (n c : Nat) (zs : List Int) (w : World) (hS : SlI w w.heap.size .u8 A n c zs) (h8 : Byte8 zs) :
  Calls Tryd.prog 60 #[.agg #[.int .i64 unit, .slice A n c]] w (RbPost w (rtuB unit zs)) := by
 have hl := hS.1
 obtain ⟨w1, hw1⟩ : ∃ Y : World, w.alloc (.cells #[.int .i64 unit, .slice A n c] 64) = Y := ⟨_, rfl⟩
 have hb1 := zB1 hw1
 have x1 := zH1 hw1
 have c0 : w1.cell? ⟨w.heap.size, 0, none⟩ = some (.int .i64 unit) := x1.cell 0
 have c1 : w1.cell? ⟨w.heap.size, 1, none⟩ = some (.slice A n c) := x1.cell 1
 have hlt := x1.lt
 have hNO : ¬ ((0 ≤ unit ∧ unit ≤ 247) ∧ 1 ≤ n ∧ n ≤ 253) → rtuB unit zs = none := fun hv => by unfold rtuB; rw [if_neg (by rw [hl]; exact hv)]
 have HNO := Lib.hid hNO
 have HS := Lib.hid hS
 have HX1 := Lib.hid x1
 clear hS hNO x1
 by_cases u0 : unit < 0
 ·have d0 : decide (unit < 0) = true := decide_eq_true u0
  go_in
  go_wp2_with fail
  go_ret2
  exact rb_none (HNO.out (by omega)) hb1
 have d0 : decide (unit < 0) = false := decide_eq_false u0
 by_cases u1 : 247 < unit
 ·have d1 : decide (247 < unit) = true := decide_eq_true u1
  go_in
  go_wp2_with fail
  go_ret2
  exact rb_none (HNO.out (by omega)) hb1
 have d1 : decide (247 < unit) = false := decide_eq_false u1
 by_cases u2 : n < 1
 ·have d2 : decide ((n : Int) < 1) = true := decide_eq_true (by omega)
  go_in
  go_wp2_with fail
  go_ret2
  exact rb_none (HNO.out (by omega)) hb1
 have d2 : decide ((n : Int) < 1) = false := decide_eq_false (by omega)
 by_cases u3 : 253 < n
 ·have d3 : decide ((253 : Int) < (n : Int)) = true := decide_eq_true (by omega)
  go_in
  go_wp2_with fail
  go_ret2
  exact rb_none (HNO.out (by omega)) hb1
 have d3 : decide ((253 : Int) < (n : Int)) = false := decide_eq_false (by omega)
 obtain ⟨i0, hi, hz0, hz1, hz2⟩ := info_parts infoB
 have hyes : rtuB unit zs = some (sealL (unit :: zs)) := by unfold rtuB; rw [if_pos (by rw [hl]; omega)]; rfl
 have hw : unit % 256 = unit := by omega
 obtain ⟨w2, hw2⟩ : ∃ Y : World, w1.alloc (.cells #[.int .u8 unit] 5) = Y := ⟨_, rfl⟩
 have hb2 : Below w.heap.size w w2 := by rw [← hw2]; exact hb1.alloc hb1.size _
 have hz1w : w1.heap.size = w.heap.size + 1 := by rw [← hw1]; simp
 have o2 : w2.ownsRow w.heap.size 5 1 (.slice (some ⟨w1.heap.size, 0, none⟩) 1 1) 1 ([unit].map (Value.int .u8)) := by
  rw [← hw2]
  have h : (w1.alloc (.cells #[.int .u8 unit] 5)).ownsRow w.heap.size 5 1 (.slice (some ⟨w1.heap.size, 0, none⟩) 1 1) 1 ([unit].map (Value.int .u8)) := World.ownsRow_lit w1 #[.int .u8 unit] 1 hb1.size (by unfold maxLen; omega) rfl
  exact h
 have c12 : w2.cell? ⟨w.heap.size, 1, none⟩ = some (.slice A n c) := by rw [← hw2]; exact (HX1.out.alloc _).cell 1
 have hlt2 : w.heap.size < w2.heap.size := by have := hb2.size; rw [← hw2]; simp; omega
 have s2 := HS.out.up hb2
 have hz := hb2.size
 have HA1 := Lib.hid (show 1 + n ≤ maxLen ∧ (1 + n) * 1 ≤ 140737488355328 by unfold maxLen; omega)
 have HC := Lib.hid (fun (V : World) (A' : Option Addr) (c' : Nat) (h : SlI V V.heap.size .u8 A' (1 + n) c' (unit :: zs)) => dseal_any A' (1 + n) c' (unit :: zs) V h (by omega) (fun x hx => by
  rcases List.mem_cons.1 hx with rfl | hx
  ·omega
  ·exact h8 x hx))
 have HY := Lib.hid hyes
 clear hyes hz1w
 go_in
 go_wp2_with ((with_reducible refine at_append ?_); refine wpList_append_sl w2 rfl (.tmp 29) (.tmp 31) 22 rfl w.heap.size 5 i0 (.int .u8 0) 1 Tryd.underlying22 hi hz0 hz1 hz2 rfl _ 1 _ rfl o2 w2.heap.size .u8 A n c zs rfl s2 HA1.out.1 HA1.out.2 hz ?_; intro v3 w3 hO3 hg3 _; have hb3 := hb2.grown hg3 hz (fun B hB => (o2.lt B hB).1); clear hg3)
 obtain ⟨A3, c3, rfl, hs3⟩ := SlI.of_own (xs := unit :: zs) hO3
 refine (HC.out _ _ _ hs3).mono ?_
 rintro e w4 ⟨v4, rfl, o4, hb4⟩
 obtain ⟨A4, c4, rfl, hs4⟩ := SlI.of_own o4
 have hb5 := hb3.trans (hb4.mono hb3.size)
 have HF := Lib.hid (And.intro hs4 hb5)
 clear hs4 hb5 o4 hb4 hs3 hO3 hb3 c12 c0 c1
 go_wp2_with fail
 go_ret2
 exact rb_some HY.out HF.out.1 HF.out.2
theorem readR_short (b : List Int) (h : b.length < 4 ∨ 256 < b.length) : readR b = none := by
 unfold readR openL
 split
 ·rfl
 ·rename_i l hl
  split at hl
  ·cases hl
   rw [if_neg]
   rw [List.length_take]
   omega
  ·cases hl
theorem readR_doc (x : Int) (r : List Int) (h1 : 3 ≤ r.length) (h2 : r.length ≤ 255) : readR (x :: r) = if x ≤ 247 ∧ sealL (x :: r.take (r.length - 2)) = x :: r then some (x, r.take (r.length - 2)) else none := by
 have e : (x :: r).take ((x :: r).length - 2) = x :: r.take (r.length - 2) := by
  rw [List.length_cons, show r.length + 1 - 2 = (r.length - 2) + 1 by omega, List.take_succ_cons]
 unfold readR openL
 rw [e]
 by_cases h : sealL (x :: r.take (r.length - 2)) = x :: r
 ·rw [if_pos ⟨by simp; omega, h⟩]
  dsimp only
  by_cases q : x ≤ 247
  ·rw [if_pos ⟨by simp; omega, by simp; omega, by simpa using q⟩, if_pos ⟨q, h⟩]; simp
  ·rw [if_neg (by rintro ⟨_, _, q2⟩; exact q (by simpa using q2)), if_neg (fun q2 => q q2.1)]
 ·rw [if_neg (fun q => h q.2), if_neg (fun q => h q.2)]
theorem SlI.far2n {W : World} {k : IntKind} {g off n c b : Nat} {xs : List Int} (h : SlI W W.heap.size k (some ⟨g, off, none⟩) n c xs) (hne : g ≠ b) (a a' : Value) :
  SlI ((W.setCell ⟨b, 0, none⟩ a).setCell ⟨b, 1, none⟩ a') ((W.setCell ⟨b, 0, none⟩ a).setCell ⟨b, 1, none⟩ a').heap.size k (some ⟨g, off, none⟩) n c xs := h.far2 hne a a'
theorem dread_any (A : Option Addr) (n c : Nat) (b : List Int) (w : World) (hS : SlI w w.heap.size .u8 A n c b) (h8 : Byte8 b) :
  Calls Tryd.prog 96 #[.slice A n c] w (RtuPost w (readR b)) := by
 have hl := hS.1
 obtain ⟨w0, hw0⟩ : ∃ Y : World, w.alloc (.cells #[.int .i64 0, .slice none 0 0] 64) = Y := ⟨_, rfl⟩
 have b0 := zB1 hw0
 have hF0 := zH1 hw0
 have HF0 := Lib.hid hF0
 have hlt0 := hF0.lt
 have g0 : w0.cell? ⟨w.heap.size, 0, none⟩ = some (.int .i64 0) := hF0.cell 0
 have g1 : w0.cell? ⟨w.heap.size, 1, none⟩ = some (.slice none 0 0) := hF0.cell 1
 have fg0 := hF0.frozen 0
 have fg1 := hF0.frozen 1
 have HBAD : Hid (∀ (V : World), Below w.heap.size w V → readR b = none → RtuPost w (readR b) (.returned (.tuple #[.agg #[.int .i64 0, .slice none 0 0], .int .i64 200])) ((V.setCell ⟨w.heap.size, 0, none⟩ (.int .i64 0)).setCell ⟨w.heap.size, 1, none⟩ (.slice none 0 0))) := Lib.hid (fun V hV e => by
  rw [e]
  exact ⟨none, 0, 0, rfl, SlI.nil _ _ _, (hV.setCell (p := ⟨w.heap.size, 0, none⟩) (Nat.le_refl _) _).setCell (p := ⟨w.heap.size, 1, none⟩) (Nat.le_refl _) _⟩)
 have HS := Lib.hid hS
 clear hS hF0
 by_cases n4 : n < 4
 ·have d4 : decide ((n : Int) < 4) = true := decide_eq_true (by omega)
  have HR := Lib.hid (readR_short b (.inl (by omega)))
  go_in
  go_wp2_with fail
  exact bodyPost_ret (results_cellT rfl _ _ _ _ _ _ _ (by kernel_rfl) (by kernel_rfl) (rset2 HF0.out _ _) Tryd.underlying64 (by kernel_rfl) (by kernel_rfl)) rfl (HBAD.out _ b0 HR.out)
 have d4 : decide ((n : Int) < 4) = false := decide_eq_false (by omega)
 by_cases n256 : 256 < n
 ·have d256 : decide ((256 : Int) < (n : Int)) = true := decide_eq_true (by omega)
  have HR := Lib.hid (readR_short b (.inr (by omega)))
  go_in
  go_wp2_with fail
  exact bodyPost_ret (results_cellT rfl _ _ _ _ _ _ _ (by kernel_rfl) (by kernel_rfl) (rset2 HF0.out _ _) Tryd.underlying64 (by kernel_rfl) (by kernel_rfl)) rfl (HBAD.out _ b0 HR.out)
 have d256 : decide ((256 : Int) < (n : Int)) = false := decide_eq_false (by omega)
 cases b with
 | nil => simp at hl; omega
 | cons x0 r =>
  obtain ⟨g, off, rfl, hg, hc⟩ := HS.out.2.2.2.2 (by simp)
  have hc0 : w.cell? ⟨g, off, none⟩ = some (.int .u8 x0) := hc 0 x0 rfl
  have hc00 : w0.cell? ⟨g, off, none⟩ = some (.int .u8 x0) := (b0.cell (p := ⟨g, off, none⟩) hg).trans hc0
  have hx8 := h8 x0 (List.mem_cons_self ..)
  have hcap := HS.out.2.1
  have hc1 : ¬ c = 1 := by omega
  have hrl : r.length = n - 1 := by simp at hl; omega
  have hsub : IntKind.i64.wrap ((n : Int) - 2) = ((n - 2 : Nat) : Int) := by simp only [IntKind.wrap_i64]; omega
  obtain ⟨m, hm⟩ : ∃ m : Nat, n - 2 = m := ⟨_, rfl⟩
  rw [hm] at hsub
  have hmI : (1 : Int) ≤ (m : Int) := by omega
  have hmc : (m : Int) ≤ (c : Int) := by omega
  have hnI : (0 : Int) < (n : Int) := by omega
  have hwx : IntKind.i64.wrap x0 = x0 := by simp only [IntKind.wrap_i64]; omega
  have HDOC := Lib.hid (readR_doc x0 r (by omega) (by omega))
  have HH := Lib.hid (And.intro hm hrl)
  have hg0 : g < w0.heap.size := by have := b0.size; omega
  clear hc hc0 hm hl hrl
  go_in
  go_upto_region 3 with fail
  go_region
  obtain ⟨w2, hw2⟩ : ∃ Y : World, (w0.alloc (.cells #[.int .i64 x0, .slice (some ⟨g, off + 1, none⟩) (m - 1) (c - 1)] 64)).drew = Y := ⟨_, rfl⟩
  have b02 : Below w0.heap.size w0 w2 := by rw [← hw2]; exact ((Below.refl _ w0).alloc (Nat.le_refl _) _).drew
  have hX2 : Held w2 w0.heap.size 64 #[.int .i64 x0, .slice (some ⟨g, off + 1, none⟩) (m - 1) (c - 1)] := by rw [← hw2]; exact (Held.new w0 _ _).drew
  have b2 := b0.trans (b02.mono b0.size)
  have hS2 : SlI w2 w2.heap.size .u8 (some ⟨g, off + 1, none⟩) (m - 1) (c - 1) (r.take (m - 1)) := ((HS.out.up b2).drop 1 (by omega)).take (m - 1) (by have := HH.out.1; omega)
  have hp8 : Byte8 (r.take (m - 1)) := fun y hy => h8 y (List.mem_cons_of_mem _ (List.mem_of_mem_take hy))
  have hpl : (r.take (m - 1)).length = m - 1 := by rw [List.length_take]; have := HH.out; omega
  have hdoc := HDOC.out
  rw [HH.out.2, show n - 1 - 2 = m - 1 by have := HH.out.1; omega] at hdoc
  rw [hw2]
  have x20 : w2.cell? ⟨w0.heap.size, 0, none⟩ = some (.int .i64 x0) := hX2.cell 0
  have x21 : w2.cell? ⟨w0.heap.size, 1, none⟩ = some (.slice (some ⟨g, off + 1, none⟩) (m - 1) (c - 1)) := hX2.cell 1
  have hl2 := hX2.lt
  have HB := Lib.hid (dbytes_any x0 (some ⟨g, off + 1, none⟩) (m - 1) (c - 1) (r.take (m - 1)) w2 hS2 hp8)
  have HX2 := Lib.hid hX2
  have HS2 := Lib.hid hS2
  obtain ⟨zs, hzs⟩ : ∃ z, r.take (m - 1) = z := ⟨_, rfl⟩
  rw [hzs] at HB HS2 hp8 hpl hdoc
  have HD := Lib.hid hdoc
  clear hw2 hX2 hS2 hzs hdoc HDOC hc00 g0 g1 fg0 fg1
  go_wp2_with fail
  refine HB.out.mono ?_
  rintro e w3 ⟨A3, n3, c3, rfl, s3, b3, _⟩
  have hb3 := b2.trans (b3.mono b2.size)
  have hF3 := (HF0.out.below b02 hlt0).below b3 (by omega)
  have HF3 := Lib.hid hF3
  have g0 : w3.cell? ⟨w.heap.size, 0, none⟩ = some (.int .i64 0) := hF3.cell 0
  have g1 : w3.cell? ⟨w.heap.size, 1, none⟩ = some (.slice none 0 0) := hF3.cell 1
  have fg0 := hF3.frozen 0
  have fg1 := hF3.frozen 1
  have hl3 := hF3.lt
  have hX3 := HX2.out.below b3 hl2
  have x30 : w3.cell? ⟨w0.heap.size, 0, none⟩ = some (.int .i64 x0) := hX3.cell 0
  have x31 : w3.cell? ⟨w0.heap.size, 1, none⟩ = some (.slice (some ⟨g, off + 1, none⟩) (m - 1) (c - 1)) := hX3.cell 1
  have hl3' := hX3.lt
  have HB3 := Lib.hid hb3
  have HS3 := Lib.hid (HS2.out.up b3)
  have HSb := Lib.hid (HS.out.up hb3)
  clear b3 hb3 hF3 x20 x21 hX3
  by_cases hx : x0 ≤ 247
  ·have hrb : rtuB x0 zs = some (rtuL x0 zs) := by unfold rtuB; rw [if_pos (by rw [hpl]; have := HH.out.1; omega)]
   rw [hrb] at s3 ⊢
   have s3 : SlI w3 w3.heap.size .u8 A3 n3 c3 (rtuL x0 zs) := s3
   have hr8 : Byte8 (rtuL x0 zs) := by
    unfold rtuL sealL
    intro y hy
    have := crcL_lt (x0 :: zs)
    rcases List.mem_append.1 hy with h | h
    ·rcases List.mem_cons.1 h with rfl | h
     ·exact hx8
     ·exact hp8 y h
    ·simp at h; omega
   have kc := conv_sli s3
   have kb := conv_sli HSb.out
   have hse := str_eq (rtuL x0 zs) (x0 :: r) hr8 h8
   by_cases hq : rtuL x0 zs = x0 :: r
   ·have hR : readR (x0 :: r) = some (x0, zs) := by rw [HD.out]; exact if_pos ⟨hx, hq⟩
    rw [decide_eq_true hq] at hse
    have HR := Lib.hid hR
    clear s3 hq hR hrb
    go_wp2_with fail
    have hfin : RtuPost w (readR (x0 :: r)) (.returned (.tuple #[.agg #[.int .i64 x0, .slice (some ⟨g, off + 1, none⟩) (m - 1) (c - 1)], .int .i64 0])) ((w3.setCell ⟨w.heap.size, 0, none⟩ (.int .i64 x0)).setCell ⟨w.heap.size, 1, none⟩ (.slice (some ⟨g, off + 1, none⟩) (m - 1) (c - 1))) := by
     rw [HR.out]
     exact ⟨_, _, _, rfl, HS3.out.far2n (by omega) _ _, (HB3.out.setCell (p := ⟨w.heap.size, 0, none⟩) (Nat.le_refl _) _).setCell (p := ⟨w.heap.size, 1, none⟩) (Nat.le_refl _) _⟩
    exact bodyPost_ret (results_cellT rfl _ _ _ _ _ _ _ (by kernel_rfl) (by kernel_rfl) (rset2 HF3.out _ _) Tryd.underlying64 (by kernel_rfl) (by kernel_rfl)) rfl hfin
   ·have hR : readR (x0 :: r) = none := by rw [HD.out]; exact if_neg (fun q => hq q.2)
    rw [decide_eq_false hq] at hse
    have HR := Lib.hid hR
    clear s3 hq hR hrb
    go_wp2_with fail
    exact bodyPost_ret (results_cellT rfl _ _ _ _ _ _ _ (by kernel_rfl) (by kernel_rfl) (rset2 HF3.out _ _) Tryd.underlying64 (by kernel_rfl) (by kernel_rfl)) rfl (HBAD.out _ HB3.out HR.out)
  ·have hrb : rtuB x0 zs = none := by unfold rtuB; rw [if_neg (by omega)]
   rw [hrb] at s3 ⊢
   have hR : readR (x0 :: r) = none := by rw [HD.out]; exact if_neg (fun q => hx q.1)
   have HR := Lib.hid hR
   clear s3 hR hrb
   go_wp2_with fail
   exact bodyPost_ret (results_cellT rfl _ _ _ _ _ _ _ (by kernel_rfl) (by kernel_rfl) (rset2 HF3.out _ _) Tryd.underlying64 (by kernel_rfl) (by kernel_rfl)) rfl (HBAD.out _ HB3.out HR.out)
end Go.Proofs.YtcipleanckeoaaaDoor
