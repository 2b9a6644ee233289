/- crc.Seal16 and rtu.Bytes. -/
import Derived.Test.YtcipleanckeoaaaDoorYTk
import Derived.Test.YtcipleanckeoaaaDoorYCrc
import Derived.Test.YtcipleanckeoaaaDoorYCommon
set_option maxRecDepth 100000
set_option maxHeartbeats 40000000
namespace Go.Proofs.YtcipleanckeoaaaDoor
open Go.RowKit Go.Shelf
attribute [local go_sem] Oper.semAt_some
set_option linter.unusedVariables false
set_option linter.unusedSimpArgs false
def sealL (zs : List Int) : List Int := zs ++ [((crcL zs % 256 : Nat) : Int), ((crcL zs / 256 : Nat) : Int)]
theorem sealL_len (zs : List Int) : (sealL zs).length = zs.length + 2 := by simp [sealL]
theorem bclone_any (A : Option Addr) (n c : Nat) (xs : List Int) (w : World) (hS : SlI w w.heap.size .u8 A n c xs) (hn : n ≤ 1000000) :
  Calls Tryd.prog 103 #[.slice A n c] w fun e w' => ∃ v, e = .returned v ∧ w'.ownsRow w.heap.size 5 1 v n (xs.map (Value.int .u8)) ∧ Below w.heap.size w w' := by
 obtain ⟨i0, hi, hz0, hz1, hz2⟩ := info_parts infoB
 cases A with
 | none =>
  obtain ⟨rfl, rfl⟩ := hS.2.2.2.1 rfl
  obtain rfl := List.length_eq_zero_iff.1 hS.1
  have heq := fun (W : World) => Lib.run_eql_slice_nil (P := Tryd.prog) W 22 5 none 0 0 0 0 Tryd.underlying22
  clear hS
  go_in
  go_wp2
  go_ret
  exact ⟨_, rfl, World.ownsRow_nil _ _ _ _, Below.refl _ _⟩
 | some a =>
  have heq := fun (W : World) => Lib.run_eql_slice_nil (P := Tryd.prog) W 22 5 (some a) n c 0 0 Tryd.underlying22
  obtain ⟨w1, hw1⟩ : ∃ W, w.alloc (.cells #[] 5) = W := ⟨_, rfl⟩
  have hb1 := zB1 hw1
  have hown : w1.ownsRow w.heap.size 5 1 (.slice (some ⟨w.heap.size, 0, none⟩) 0 0) 0 [] := by rw [← hw1]; exact World.ownsRow_lit w #[] 0 (Nat.le_refl _) (by unfold maxLen; omega) rfl
  have hz := hb1.size
  have hs1 := hS.up hb1
  have HA1 := Lib.hid (show 0 + n ≤ maxLen ∧ (0 + n) * 1 ≤ 140737488355328 by unfold maxLen; omega)
  clear hS
  go_in
  go_wp2_with ((with_reducible refine at_append ?_); refine wpList_append_sl w1 rfl (.tmp 5) (.tmp 6) 22 rfl w.heap.size 5 i0 (.int .u8 0) 1 Tryd.underlying22 hi hz0 hz1 hz2 rfl _ 0 _ rfl hown w1.heap.size .u8 (some a) n c xs rfl hs1 HA1.out.1 HA1.out.2 hz ?_; intro v2 w2 hO2 hg2 _; have hb2 := hb1.grown hg2 hz (fun B hB => (hown.lt B hB).1); clear hg2)
  go_ret
  rw [List.nil_append, Nat.zero_add] at hO2
  exact ⟨_, rfl, hO2, hb2⟩
theorem seal_any (A : Option Addr) (n c : Nat) (zs : List Int) (w : World) (hS : SlI w w.heap.size .u8 A n c zs) (hn : n ≤ 100000) (hbs : ∀ x ∈ zs, 0 ≤ x ∧ x < 256) :
  Calls Tryd.prog 66 #[.slice A n c] w fun e w' => ∃ v, e = .returned v ∧ w'.ownsRow w.heap.size 5 1 v (n + 2) ((sealL zs).map (Value.int .u8)) ∧ Below w.heap.size w w' := by
 obtain ⟨i0, hi, hz0, hz1, hz2⟩ := info_parts infoB
 have H1 := Lib.hid (crc16_any A n c zs (by omega) hS.1 hbs w hS.2.2.2.2)
 have H2 := Lib.hid (fun (V : World) (h : Below w.heap.size w V) => bclone_any A n c zs V (hS.up h) (by omega))
 have hlt := crcL_lt zs
 have HL := Lib.hid (show sealL zs = zs ++ [((crcL zs % 256 : Nat) : Int), ((crcL zs / 256 : Nat) : Int)] from rfl)
 have hzl := hS.1
 clear hS
 obtain ⟨v, hv⟩ : ∃ v, crcL zs = v := ⟨_, rfl⟩
 rw [hv] at H1 HL hlt
 clear hv
 obtain ⟨a, ha⟩ : ∃ a, v % 256 = a := ⟨_, rfl⟩
 obtain ⟨b, hb⟩ : ∃ b, v / 256 = b := ⟨_, rfl⟩
 rw [ha, hb] at HL
 have e1 : (v : Int) % 256 = (a : Int) := by omega
 have e2 : (v : Int) / 256 = (b : Int) := by omega
 have hb2 : b < 256 := by omega
 have HA1 := Lib.hid (show n + 2 ≤ maxLen ∧ (n + 2) * 1 ≤ 140737488355328 by unfold maxLen; omega)
 clear ha hb
 go_in
 go_wp2_with (go_at_call 102; refine H1.out.mono ?_; rintro e w1 ⟨rfl, hb1⟩)
 refine (H2.out _ hb1).mono ?_
 rintro e w2 ⟨v1, rfl, o1, hb12⟩
 obtain ⟨A1, c1, rfl, _⟩ := SlI.of_own o1
 have hbw := hb1.trans (hb12.mono hb1.size)
 have o2 : w2.ownsRow w.heap.size 5 1 (.slice A1 n c1) n (zs.map (Value.int .u8)) := own_base o1 hb1.size
 have O2 := Lib.hid o2
 have hz2' := hbw.size
 clear o1 hb12 o2
 obtain ⟨w3, hw3⟩ : ∃ Y : World, w2.alloc (.cells #[.int .u8 (a : Int), .int .u8 (b : Int)] 5) = Y := ⟨_, rfl⟩
 have hb3 : Below w.heap.size w w3 := by rw [← hw3]; exact hbw.alloc hz2' _
 have o3 : w3.ownsRow w.heap.size 5 1 (.slice A1 n c1) n (zs.map (Value.int .u8)) := by rw [← hw3]; exact O2.out.alloc _
 have s3 : SlI w3 w3.heap.size .u8 (some ⟨w2.heap.size, 0, none⟩) 2 2 [(a : Int), (b : Int)] := by rw [← hw3]; exact SlI.of_lit rfl rfl (by omega)
 have hz3 := hb3.size
 go_wp2_with ((with_reducible refine at_append ?_); refine wpList_append_sl w3 rfl (.tmp 7) (.tmp 13) 22 rfl w.heap.size 5 i0 (.int .u8 0) 1 Tryd.underlying22 hi hz0 hz1 hz2 rfl _ n _ rfl o3 w3.heap.size .u8 (some ⟨w2.heap.size, 0, none⟩) 2 2 [(a : Int), (b : Int)] rfl s3 HA1.out.1 HA1.out.2 hz3 ?_; intro v4 w4 hO4 hg4 _; have hb4 := hb3.grown hg4 hz3 (fun B hB => (o3.lt B hB).1); clear hg4)
 go_ret
 rw [HL.out, List.map_append]
 exact ⟨_, rfl, hO4, hb4⟩
def rtuL (unit : Int) (zs : List Int) : List Int := sealL (unit :: zs)
theorem rtuL_len (unit : Int) (zs : List Int) : (rtuL unit zs).length = zs.length + 3 := by simp [rtuL, sealL_len]
theorem rtu_any (unit : Int) (hu : 0 ≤ unit ∧ unit ≤ 247) (A : Option Addr) (n c : Nat) (zs : List Int) (w : World) (hS : SlI w w.heap.size .u8 A n c zs) (hn : 1 ≤ n ∧ n ≤ 253) (hbs : ∀ x ∈ zs, 0 ≤ x ∧ x < 256) :
  Calls Tryd.prog 28 #[.agg #[.int .i64 unit, .slice A n c]] w fun e w' => ∃ A' c', e = .returned (.tuple #[.slice A' (n + 3) c', .int .i64 0]) ∧ SlI w' w'.heap.size .u8 A' (n + 3) c' (rtuL unit zs) ∧ Below w.heap.size w w' ∧ ∀ a, A' = some a → w.heap.size ≤ a.block := by
 obtain ⟨i0, hi, hz0, hz1, hz2⟩ := info_parts infoB
 obtain ⟨hu0, hu1⟩ := hu
 obtain ⟨hn0, hn1⟩ := hn
 have hw : unit % 256 = unit := by omega
 obtain ⟨w1, hw1⟩ : ∃ Y : World, (w.alloc (.cells #[.int .i64 unit, .slice A n c] 64)).alloc (.cells #[.int .u8 unit] 5) = Y := ⟨_, rfl⟩
 have hb1 := zB2 hw1
 have o1 : w1.ownsRow w.heap.size 5 1 (.slice (some ⟨w.heap.size + 1, 0, none⟩) 1 1) 1 ([unit].map (Value.int .u8)) := by
  rw [← hw1]
  have h : ((w.alloc (.cells #[.int .i64 unit, .slice A n c] 64)).alloc (.cells #[.int .u8 unit] 5)).ownsRow w.heap.size 5 1 (.slice (some ⟨(w.alloc (.cells #[.int .i64 unit, .slice A n c] 64)).heap.size, 0, none⟩) 1 1) 1 ([unit].map (Value.int .u8)) := World.ownsRow_lit _ #[.int .u8 unit] 1 (by simp) (by unfold maxLen; omega) rfl
  simpa using h
 have x1 : Held w1 w.heap.size 64 #[.int .i64 unit, .slice A n c] := by rw [← hw1]; exact (Held.new w _ _).alloc _
 have s1 := hS.up hb1
 have hz := hb1.size
 have HA1 := Lib.hid (show 1 + n ≤ maxLen ∧ (1 + n) * 1 ≤ 140737488355328 by unfold maxLen; omega)
 have hI1 : ((n : Int) < 1) = False := by simp; omega
 have hI2 : (253 < (n : Int)) = False := by simp; omega
 have HC := Lib.hid (fun (V : World) (A' : Option Addr) (c' : Nat) (h : SlI V V.heap.size .u8 A' (1 + n) c' (unit :: zs)) => seal_any A' (1 + n) c' (unit :: zs) V h (by omega) (fun x hx => by
  rcases List.mem_cons.1 hx with rfl | hx
  ·omega
  ·exact hbs x hx))
 have HL := Lib.hid (rtuL_len unit zs)
 have c0 := x1.cell 0
 have c1 := x1.cell 1
 simp only [List.getElem?_toArray, List.getElem?_cons_zero, List.getElem?_cons_succ] at c0 c1
 clear hS
 go_in
 go_wp2_with ((with_reducible refine at_append ?_); refine wpList_append_sl w1 rfl (.tmp 27) (.tmp 29) 22 rfl w.heap.size 5 i0 (.int .u8 0) 1 Tryd.underlying22 hi hz0 hz1 hz2 rfl _ 1 _ rfl o1 w1.heap.size .u8 A n c zs rfl s1 HA1.out.1 HA1.out.2 hz ?_; intro v2 w2 hO2 hg2 _; have hb2 := hb1.grown hg2 hz (fun B hB => (o1.lt B hB).1); clear hg2)
 obtain ⟨A2, c2, rfl, hs2⟩ := SlI.of_own (xs := unit :: zs) hO2
 refine (HC.out _ _ _ hs2).mono ?_
 rintro e w3 ⟨v3, rfl, o3, hb3⟩
 obtain ⟨A3, c3, rfl, hs3⟩ := SlI.of_own o3
 have hb4 := hb2.trans (hb3.mono hb2.size)
 rw [show 1 + n + 2 = n + 3 by omega] at hs3 ⊢
 have HS3 := Lib.hid hs3
 have HFR : Hid (∀ a, A3 = some a → w.heap.size ≤ a.block) := Lib.hid (fun a e => by have q := (o3.lt a.block (by rw [e]; rfl)).1; have := hb2.size; omega)
 clear hs3 o3 hb3 hs2 hO2 c0 c1 x1
 go_wp2_with fail
 go_ret2
 exact ⟨A3, c3, rfl, HS3.out, hb4, HFR.out⟩
end Go.Proofs.YtcipleanckeoaaaDoor
