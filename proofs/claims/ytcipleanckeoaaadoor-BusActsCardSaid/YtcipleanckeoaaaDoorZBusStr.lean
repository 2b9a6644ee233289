/- Strings by lists of bytes; the library's numerals; kilowattref22.digits, hex, Name. -/
import Derived.Test.YtcipleanckeoaaaDoorZBusMay
import Derived.Test.YtcipleanckeoaaaDoorZBusShelf
import Derived.Sort.Grow
import Derived.Lib.ItoaLen
import Derived.Lib.Hide
import Derived.Deep.Cut
open List renaming setIfInBounds_toArray → zC, set_cons_succ → zD, set_cons_zero → zE
namespace Go.Proofs.YtcipleanckeoaaaDoor
open Go.RowKit Go.Shelf Go.Sort
attribute [local go_sem] Oper.semAt_some
set_option linter.unusedVariables false
set_option linter.unusedSimpArgs false
set_option maxRecDepth 100000
abbrev P10 (w : World) : Prop := Lib.TabIs Tryd.prog w "internal/strconv.uint64pow10" .u64 Lib.pow10Tab
theorem tabIs_up {n : String} {k : IntKind} {zs : List Int} {w w' : World} (h : Lib.TabIs Tryd.prog w n k zs) (hb : Below w.heap.size w w') : Lib.TabIs Tryd.prog w' n k zs := by
 unfold Lib.TabIs World.var? at *
 cases hg : Tryd.prog.globalNamed n with
 | none => rw [hg] at h; simp at h
 | some g =>
  rw [hg] at h
  simp only [Option.bind_some] at h ⊢
  have hlt : g < w.heap.size := by
   rcases Nat.lt_or_ge g w.heap.size with h1 | h1
   ·exact h1
   ·rw [Array.getElem?_eq_none h1] at h; simp at h
  rw [hb.block g hlt]
  exact h
theorem below_grown (w : World) (q : Nat) (os : Array Obj) : Below w.heap.size w (grow (w.drewN q) os) :=
 ⟨rfl, rfl, rfl, by simp [grow], fun i hi => by
  show ((w.drewN q).heap ++ os)[i]? = _
  rw [Array.getElem?_append_left (by show i < w.heap.size; omega)]
  rfl⟩
def strB (l : List UInt8) : ByteArray := ⟨l.toArray⟩
theorem strB_size (l : List UInt8) : (strB l).size = l.length := by simp [strB, ByteArray.size]
theorem strB_append (l m : List UInt8) : strB l ++ strB m = strB (l ++ m) := by
 apply ByteArray.ext
 simp [strB]
theorem add_str (a b : List UInt8) (h : a.length + b.length ≤ 9223372036854775807) (w : World) : (binOp .add 9 (.string (strB a)) (.string (strB b))).run Tryd.prog w = .ok (.string (strB (a ++ b))) w := by
 have h1 := run_string_add_sum (P := Tryd.prog) (w := w) (strB a) (strB b) (by rw [strB_size, strB_size]; exact h)
 rw [strB_append] at h1
 exact h1
theorem add_guard (x y : Operand) (a b : ByteArray) (w : World) : (eqGuard .add 9 x y (.string a) (.string b)).run Tryd.prog w = .ok () w := rfl
theorem eqs_guard (x y : Operand) (a b : ByteArray) (w : World) : (eqGuard .eql 9 x y (.string a) (.string b)).run Tryd.prog w = .ok () w := rfl
theorem eql_str (a b : ByteArray) (w : World) : (binOp .eql 9 (.string a) (.string b)).run Tryd.prog w = .ok (.bool (a.toList == b.toList)) w := by
 kernel_rfl
theorem eql_empty (s : List UInt8) (h : s ≠ []) (w : World) : (binOp .eql 9 (.string (strB s)) (.string (strB []))).run Tryd.prog w = .ok (.bool false) w := by
 rw [eql_str]
 have : ((strB s).toList == (strB []).toList) = false := by
  rw [Bool.eq_false_iff]
  intro e
  rw [beq_iff_eq, ByteArray.toList_eq, ByteArray.toList_eq] at e
  exact h (by simpa [strB] using e)
 rw [this]
theorem conv_one (a : Int) (wr : World) : (convert 22 9 (.slice (some ⟨wr.heap.size, 0, none⟩) 1 1)).run Tryd.prog (wr.alloc (.cells #[.int .u8 a] 5)) = .ok (.string (strB [UInt8.ofNat a.toNat])) (wr.alloc (.cells #[.int .u8 a] 5)) := by
 refine run_convert_bytes_arg (P := Tryd.prog) _ 22 5 Tryd.underlying22 Tryd.underlying5 wr.heap.size 0 1 1 [a] rfl (fun i hi => ?_) 9 Tryd.underlying9
 obtain rfl : i = 0 := by omega
 exact (Held.new wr 5 #[.int .u8 a]).cell 0
theorem w64_in (a : Int) (h1 : -9223372036854775808 ≤ a) (h2 : a ≤ 9223372036854775807) : wrap64 a = a := by
 unfold wrap64
 omega
theorem decDigits_ten (u : Nat) (h : ¬ u < 10) : Lib.decDigits u = Lib.decDigits (u / 10) ++ [UInt8.ofNat (48 + u % 10)] := by rw [Lib.decDigits, dif_neg h]
def DigS (n0 i : Nat) (q : Int) (s : List UInt8) : Prop := 0 ≤ q ∧ q.toNat * 10 ^ i ≤ n0 ∧ s.length = i ∧ i ≤ 19 ∧ ((q = 0 ∧ s = Lib.decDigits n0 ∧ s ≠ []) ∨ (Lib.decDigits n0 = Lib.decDigits q.toNat ++ s ∧ (0 < q ∨ q = 0 ∧ s = [])))
def DigR (n0 : Nat) (w : World) (v0 v3 v4 : Value) (wr : World) : Prop := ∃ (i : Nat) (q : Int) (s : List UInt8), v4 = .int .i64 i ∧ v0 = .int .i64 q ∧ v3 = .string (strB s) ∧ DigS n0 i q s ∧ Below w.heap.size w wr
theorem DigS.step {n0 i : Nat} {q : Int} {s : List UInt8} (hn : n0 < 10 ^ 19) (h0 : 0 ≤ q) (h1 : q.toNat * 10 ^ i ≤ n0) (h2 : s.length = i) (h3 : i ≤ 19) (hd : Lib.decDigits n0 = Lib.decDigits q.toNat ++ s) (hq : 0 < q ∨ q = 0 ∧ s = []) : DigS n0 (i + 1) (q / 10) ([UInt8.ofNat (48 + q % 10).toNat] ++ s) := by
 obtain ⟨u, rfl⟩ : ∃ u : Nat, q = u := ⟨q.toNat, by omega⟩
 rw [Int.toNat_natCast] at h1 hd
 have e1 : ((u : Int) / 10).toNat = u / 10 := by omega
 have e2 : (48 + (u : Int) % 10).toNat = 48 + u % 10 := by omega
 refine ⟨by omega, ?_, by simp [h2], ?_, ?_⟩
 ·rw [e1, Nat.pow_succ]
  have : u / 10 * (10 ^ i * 10) = (u / 10 * 10) * 10 ^ i := by
   rw [Nat.mul_comm (10 ^ i) 10, Nat.mul_assoc]
  rw [this]
  exact Nat.le_trans (Nat.mul_le_mul_right _ (by omega)) h1
 ·rcases hq with hq | ⟨_, hs⟩
  ·have h4 : 10 ^ i < 10 ^ 19 := by
    have : 1 * 10 ^ i ≤ u * 10 ^ i := Nat.mul_le_mul_right _ (by omega)
    omega
   have := (Nat.pow_lt_pow_iff_right (a := 10) (by omega)).1 h4
   omega
  ·rw [hs] at h2; simp at h2; omega
 ·rw [e1, e2]
  by_cases h10 : u < 10
  ·left
   refine ⟨by omega, ?_, by simp⟩
   rw [hd, Lib.decDigits_one h10, show u % 10 = u by omega]
  ·right
   refine ⟨?_, by left; omega⟩
   rw [hd, decDigits_ten u h10]; simp
theorem DigS.start (n0 : Nat) : DigS n0 0 n0 [] := by
 refine ⟨by omega, by simp, rfl, by omega, .inr ⟨by simp, ?_⟩⟩
 by_cases h : n0 = 0
 ·exact .inr ⟨by omega, rfl⟩
 ·left; omega
theorem DigS.more {n0 i : Nat} {q : Int} {s : List UInt8} (hn : n0 < 10 ^ 19) (h : DigS n0 i q s) (hq : 0 < q) : i < 19 := by
 obtain ⟨h0, h1, h2, h3, _⟩ := h
 have h4 : 10 ^ i < 10 ^ 19 := by
  have : 1 * 10 ^ i ≤ q.toNat * 10 ^ i := Nat.mul_le_mul_right _ (by omega)
  omega
 exact (Nat.pow_lt_pow_iff_right (a := 10) (by omega)).1 h4
set_option maxHeartbeats 4000000 in
theorem digits_pos (n0 : Nat) (hn : n0 ≤ 9223372036854775807) (w : World) : Calls Tryd.prog 56 #[.int .i64 n0] w fun e w' => e = .returned (.string (strB (Lib.decDigits n0))) ∧ Below w.heap.size w w' := by
 have hn19 : n0 < 10 ^ 19 := by omega
 have HN := Lib.hid hn19
 clear hn19
 go_in
 go_wp2_with fail
 go_loopw [0, 3, 4] (DigR n0 w) (fun _ _ v _ => 20 - (intOf v).toNat)
 case atStart => exact ⟨0, n0, [], rfl, rfl, rfl, DigS.start n0, Below.refl _ _⟩
 case round =>
  rename_i wr _
  obtain ⟨i, q, s, rfl, rfl, rfl, hd, hbl⟩ := hrel
  have hbz := hbl.size
  have hcv := conv_one (48 + q % 10) wr
  have hi19 := hd.2.2.2.1
  have hiI : (i : Int) < 20 := by omega
  have hq0 := hd.1
  have HQ := Lib.hid hd.2.1
  have hsl := hd.2.2.1
  have hADD : Hid (∀ v, (binOp .add 9 (.string (strB [UInt8.ofNat (48 + q % 10).toNat])) (.string (strB s))).run Tryd.prog v = .ok (.string (strB ([UInt8.ofNat (48 + q % 10).toNat] ++ s))) v) := Lib.hid (fun v => add_str _ _ (by simp; omega) v)
  by_cases hq : 0 < q
  ·have HS := Lib.hid (show DigS n0 (i + 1) (q / 10) ([UInt8.ofNat (48 + q % 10).toNat] ++ s) by
    rcases hd.2.2.2.2 with ⟨h1, _⟩ | ⟨h1, h2⟩
    ·omega
    ·exact DigS.step HN.out hd.1 hd.2.1 hsl hi19 h1 h2)
   have hb2 : Below w.heap.size w (wr.alloc (.cells #[.int .u8 (48 + q % 10)] 5)) := hbl.alloc hbz _
   have hm : IntKind.u8.wrap (48 + q % 10) = 48 + q % 10 := by simp only [IntKind.wrap_u8]; omega
   clear hd
   go_wp2_with ((with_reducible refine wpList_bin_at (dst := some 24) .add 9 9 (.tmp 22) (.tmp 23) (.string (strB [UInt8.ofNat (48 + q % 10).toNat])) (.string (strB s)) _ (by kernel_rfl) (by kernel_rfl) (by kernel_rfl) (add_guard _ _ _ _ _) (hADD.out _) ?_); simp only [Act.put, zC, zD, zE])
   have hqn : q ≤ n0 := by
    have h1 := HQ.out
    have h2 : q.toNat * 1 ≤ q.toNat * 10 ^ i := Nat.mul_le_mul_left _ (Nat.pow_pos (by omega))
    omega
   go_roundw
   case rel =>
    refine ⟨i + 1, q / 10, _, by go_num, ?_, rfl, HS.out, hb2⟩
    have e : q.tdiv 10 = q / 10 := Int.tdiv_eq_ediv_of_nonneg hq0
    rw [w64_in (q.tdiv 10) (by omega) (by omega), e]
   case measure => simp [intOf]; omega
  ·obtain rfl : q = 0 := by omega
   rcases hd.2.2.2.2 with ⟨_, hs, hne⟩ | ⟨hs, h2⟩
   ·have HE := Lib.hid (eql_empty s hne)
    clear hd hADD hcv HQ
    subst hs
    go_wp2_with ((with_reducible refine wpList_bin_at (dst := some 12) .eql 9 9 (.tmp 11) _ (.string (strB (Lib.decDigits n0))) (.string (strB [])) _ (by kernel_rfl) (by kernel_rfl) (by kernel_rfl) (eqs_guard _ _ _ _ _) (HE.out _) ?_); simp only [Act.put, zC, zD, zE])
    go_ret
    exact ⟨rfl, hbl⟩
   ·have HS := Lib.hid (DigS.step HN.out hd.1 hd.2.1 hsl hi19 hs h2)
    obtain rfl : s = [] := by
     rcases h2 with h | ⟨_, h⟩
     ·omega
     ·exact h
    have HE : Hid (∀ v, (binOp .eql 9 (.string (strB [])) (.string (strB []))).run Tryd.prog v = .ok (.bool true) v) := Lib.hid (fun v => by rw [eql_str, beq_self_eq_true])
    have hcv2 : (convert 22 9 (.slice (some ⟨wr.heap.size, 0, none⟩) 1 1)).run Tryd.prog (wr.alloc (.cells #[.int .u8 48] 5)) = .ok (.string (strB [48])) (wr.alloc (.cells #[.int .u8 48] 5)) := conv_one 48 wr
    have hADD2 : Hid (∀ v, (binOp .add 9 (.string (strB [48])) (.string (strB []))).run Tryd.prog v = .ok (.string (strB [48])) v) := Lib.hid (fun v => add_str [48] [] (by simp) v)
    have hb2 : Below w.heap.size w (wr.alloc (.cells #[.int .u8 48] 5)) := hbl.alloc hbz _
    have hs48 : [UInt8.ofNat (48 + (0 : Int) % 10).toNat] ++ [] = ([48] : List UInt8) := rfl
    rw [hs48] at HS
    clear hd hADD hcv HQ hs h2 hsl hs48
    go_wp2_with (first
     | ((with_reducible refine wpList_bin_at (dst := some 12) .eql 9 9 (.tmp 11) _ (.string (strB [])) (.string (strB [])) _ (by kernel_rfl) (by kernel_rfl) (by kernel_rfl) (eqs_guard _ _ _ _ _) (HE.out _) ?_); simp only [Act.put, zC, zD, zE])
     | ((with_reducible refine wpList_bin_at (dst := some 24) .add 9 9 (.tmp 22) (.tmp 23) (.string (strB [48])) (.string (strB [])) _ (by kernel_rfl) (by kernel_rfl) (by kernel_rfl) (add_guard _ _ _ _ _) (hADD2.out _) ?_); simp only [Act.put, zC, zD, zE]))
    go_roundw
    case rel => exact ⟨i + 1, 0 / 10, _, by go_num, by rfl, rfl, HS.out, hb2⟩
    case measure => simp [intOf]; omega
theorem digits_any (n : Int) (h1 : 0 ≤ n) (h2 : n ≤ 9223372036854775807) (w : World) : Calls Tryd.prog 56 #[.int .i64 n] w fun e w' => e = .returned (.string (strB (Lib.itoa n))) ∧ Below w.heap.size w w' := by
 obtain ⟨u, rfl⟩ : ∃ u : Nat, n = (u : Int) := ⟨n.toNat, by omega⟩
 rw [Lib.itoa_nonneg]
 exact digits_pos u (by omega) w
def hexB (x : Int) : UInt8 := if x < 10 then UInt8.ofNat (48 + x).toNat else UInt8.ofNat (87 + x).toNat
theorem hex_any (x : Int) (h : 0 ≤ x ∧ x < 16) (w : World) : Calls Tryd.prog 57 #[.int .u8 x] w fun e w' => e = .returned (.string (strB [hexB x])) ∧ Below w.heap.size w w' := by
 by_cases h10 : x < 10
 ·have hcv := conv_one (48 + x) w
  have hm : IntKind.u8.wrap (48 + x) = 48 + x := by simp only [IntKind.wrap_u8]; omega
  have hb : Below w.heap.size w (w.alloc (.cells #[.int .u8 (48 + x)] 5)) := (Below.refl _ w).alloc (Nat.le_refl _) _
  have HX : Hid (hexB x = UInt8.ofNat (48 + x).toNat) := Lib.hid (by unfold hexB; rw [if_pos h10])
  go_in
  go_wp2_with fail
  go_ret
  exact ⟨by rw [HX.out]; rfl, hb⟩
 ·have hcv := conv_one (87 + x) w
  have hm : IntKind.u8.wrap (97 + x) = 97 + x := by simp only [IntKind.wrap_u8]; omega
  have hm2 : IntKind.u8.wrap (97 + x - 10) = 87 + x := by simp only [IntKind.wrap_u8]; omega
  have hb : Below w.heap.size w (w.alloc (.cells #[.int .u8 (87 + x)] 5)) := (Below.refl _ w).alloc (Nat.le_refl _) _
  have HX : Hid (hexB x = UInt8.ofNat (87 + x).toNat) := Lib.hid (by unfold hexB; rw [if_neg h10])
  go_in
  go_wp2_with fail
  go_ret
  exact ⟨by rw [HX.out]; rfl, hb⟩
end Go.Proofs.YtcipleanckeoaaaDoor
