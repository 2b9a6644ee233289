/- The law PduReplies, whole. -/
import Derived.Test.YtflbiichdjhaeaaDoorPduRepliesA
import Derived.Test.YtflbiichdjhaeaaDoorPduRepliesB
import Derived.Test.YtflbiichdjhaeaaDoorPduRepliesC
namespace Go.Proofs.YtflbiichdjhaeaaDoor
open Go.RowKit
set_option linter.unusedVariables false

theorem read_sizes (a : AskP) (b : List Int) (hb : Byte8 b) (hl : b.length ≤ 1000) : Reg16 ((readAnswerP a b).getD rep0).regs ∧ ((readAnswerP a b).getD rep0).bits.length ≤ 100000 ∧ ((readAnswerP a b).getD rep0).regs.length ≤ 100000 := by
  have h0 : Reg16 ([] : List Int) := fun x hx => by cases hx
  unfold readAnswerP
  split
  · exact ⟨h0, by simp [rep0], by simp [rep0]⟩
  split
  · rename_i h1 h2
    have hm : mayP a = true := by
      cases hm : mayP a
      · rw [answer_no a _ hm] at h2; cases h2
      · rfl
    have hc := (may_cases a hm).2
    rw [Option.getD_some]
    unfold guessR
    split
    · exact ⟨h0, by simp, by simp⟩
    split
    · exact ⟨h0, by show (unpackP _ _).length ≤ _; rw [unpackP_len]; omega, by simp⟩
    split
    · refine ⟨?_, by simp, ?_⟩
      · show Reg16 (if b.length % 2 = 0 then wordsP (b.drop 2) else [])
        split
        · exact wordsP_reg (fun x hx => hb x (List.mem_of_mem_drop hx))
        · exact h0
      · show (if b.length % 2 = 0 then wordsP (b.drop 2) else []).length ≤ 100000
        split
        · rw [wordsP_len, List.length_drop]; omega
        · simp
    · exact ⟨h0, by simp, by simp⟩
  · exact ⟨h0, by simp [rep0], by simp [rep0]⟩
set_option maxRecDepth 100000 in
set_option maxHeartbeats 4000000 in
theorem rep_g2 (a : AskP) (r : RepP) (b : List Int) (A2 : Option Addr) (n2 c2 : Nat) (A3 : Option Addr) (n3 c3 : Nat) (A4 : Option Addr) (n4 c4 : Nat) (A5 : Option Addr) (n5 c5 : Nat) (B : Option Addr) (n c : Nat) (w : World) (hT : LimT w)
    (h2 : SlB w w.heap.size A2 n2 c2 a.bits) (h3 : SlI w w.heap.size .u16 A3 n3 c3 a.regs) (h3i : Reg16 a.regs) (h4 : SlB w w.heap.size A4 n4 c4 r.bits) (h5 : SlI w w.heap.size .u16 A5 n5 c5 r.regs) (h5i : Reg16 r.regs) (hB : SlI w w.heap.size .u8 B n c b) (hb8 : Byte8 b) (e2 : (decide (2500 < n2) || decide (300 < n3)) = true) :
    Calls Tryd.prog 5 #[.agg #[.int .i64 a.fn, .int .i64 a.addr, .int .i64 a.count, .int .i64 a.to, .slice A2 n2 c2, .slice A3 n3 c3], .agg #[.int .i64 r.fn, .int .i64 r.code, .slice A4 n4 c4, .slice A5 n5 c5], .slice B n c] w fun e w' => e = .returned (.bool true) ∧ Below w.heap.size w w' := by
  obtain ⟨w2, hw2⟩ : ∃ w2, (w.alloc (.cells #[.int .i64 a.fn, .int .i64 a.addr, .int .i64 a.count, .int .i64 a.to, .slice A2 n2 c2, .slice A3 n3 c3] 25)).alloc (.cells #[.int .i64 r.fn, .int .i64 r.code, .slice A4 n4 c4, .slice A5 n5 c5] 34) = w2 := ⟨_, rfl⟩
  have hb2 : Below w.heap.size w w2 := by rw [← hw2]; exact (((Below.refl _ w).alloc (Nat.le_refl _) _).alloc (by simp) _)
  have hP2 : Held w2 w.heap.size 25 #[.int .i64 a.fn, .int .i64 a.addr, .int .i64 a.count, .int .i64 a.to, .slice A2 n2 c2, .slice A3 n3 c3] := by rw [← hw2]; exact (Held.new w _ _).alloc _
  have hQ2 : Held w2 (w.heap.size + 1) 34 #[.int .i64 r.fn, .int .i64 r.code, .slice A4 n4 c4, .slice A5 n5 c5] := by rw [← hw2]; have := Held.new (w.alloc (.cells #[.int .i64 a.fn, .int .i64 a.addr, .int .i64 a.count, .int .i64 a.to, .slice A2 n2 c2, .slice A3 n3 c3] 25)) 34 #[.int .i64 r.fn, .int .i64 r.code, .slice A4 n4 c4, .slice A5 n5 c5]; rw [World.size_alloc] at this; exact this
  have HG2 := Lib.hid (fun X => great_any A2 A3 n2 c2 n3 c3 X)
  have HG4 := Lib.hid (fun X => great_any A4 A5 n4 c4 n5 c5 X)
  have hu := Tryd.underlying25
  have hu4 := Tryd.underlying34
  have hsz : (Tryd.prog.info? 25).map (·.size) = some 6 := by kernel_rfl
  have hsz4 : (Tryd.prog.info? 34).map (·.size) = some 4 := by kernel_rfl
  have HAL := Lib.hid (alive_own w2 (hT.up hb2))
  clear hT h2 h3 h4 h5 h3i h5i hB hb8
  have hb2w := hb2
  rw [e2] at HG2
  clear e2
  go_in
  go_wp2_with fail
  refine HAL.out.mono ?_
  rintro e w3 ⟨rfl, hb3⟩
  have hb3w := hb2w.trans (hb3.mono hb2w.size)
  have hP3 := hP2.below hb3 hP2.lt
  have hQ3 := hQ2.below hb3 hQ2.lt
  have p3_4 : w3.cell? ⟨w.heap.size, 4, none⟩ = some (.slice A2 n2 c2) := hP3.cell 4
  have p3_5 : w3.cell? ⟨w.heap.size, 5, none⟩ = some (.slice A3 n3 c3) := hP3.cell 5
  have q3_2 : w3.cell? ⟨w.heap.size + 1, 2, none⟩ = some (.slice A4 n4 c4) := hQ3.cell 2
  have q3_3 : w3.cell? ⟨w.heap.size + 1, 3, none⟩ = some (.slice A5 n5 c5) := hQ3.cell 3
  go_wp2_with (first
  | (go_at_call 10; (with_reducible refine (HG2.out _).mono ?_); rintro e w' ⟨rfl, rfl⟩)
  | (go_at_call 10; (with_reducible refine (HG4.out _).mono ?_); rintro e w' ⟨rfl, rfl⟩))
  go_ret
  exact ⟨rfl, hb3w⟩
set_option maxRecDepth 100000 in
set_option maxHeartbeats 4000000 in
theorem rep_g4 (a : AskP) (r : RepP) (b : List Int) (A2 : Option Addr) (n2 c2 : Nat) (A3 : Option Addr) (n3 c3 : Nat) (A4 : Option Addr) (n4 c4 : Nat) (A5 : Option Addr) (n5 c5 : Nat) (B : Option Addr) (n c : Nat) (w : World) (hT : LimT w)
    (h2 : SlB w w.heap.size A2 n2 c2 a.bits) (h3 : SlI w w.heap.size .u16 A3 n3 c3 a.regs) (h3i : Reg16 a.regs) (h4 : SlB w w.heap.size A4 n4 c4 r.bits) (h5 : SlI w w.heap.size .u16 A5 n5 c5 r.regs) (h5i : Reg16 r.regs) (hB : SlI w w.heap.size .u8 B n c b) (hb8 : Byte8 b) (e2 : (decide (2500 < n2) || decide (300 < n3)) = false) (e4 : (decide (2500 < n4) || decide (300 < n5)) = true) :
    Calls Tryd.prog 5 #[.agg #[.int .i64 a.fn, .int .i64 a.addr, .int .i64 a.count, .int .i64 a.to, .slice A2 n2 c2, .slice A3 n3 c3], .agg #[.int .i64 r.fn, .int .i64 r.code, .slice A4 n4 c4, .slice A5 n5 c5], .slice B n c] w fun e w' => e = .returned (.bool true) ∧ Below w.heap.size w w' := by
  obtain ⟨w2, hw2⟩ : ∃ w2, (w.alloc (.cells #[.int .i64 a.fn, .int .i64 a.addr, .int .i64 a.count, .int .i64 a.to, .slice A2 n2 c2, .slice A3 n3 c3] 25)).alloc (.cells #[.int .i64 r.fn, .int .i64 r.code, .slice A4 n4 c4, .slice A5 n5 c5] 34) = w2 := ⟨_, rfl⟩
  have hb2 : Below w.heap.size w w2 := by rw [← hw2]; exact (((Below.refl _ w).alloc (Nat.le_refl _) _).alloc (by simp) _)
  have hP2 : Held w2 w.heap.size 25 #[.int .i64 a.fn, .int .i64 a.addr, .int .i64 a.count, .int .i64 a.to, .slice A2 n2 c2, .slice A3 n3 c3] := by rw [← hw2]; exact (Held.new w _ _).alloc _
  have hQ2 : Held w2 (w.heap.size + 1) 34 #[.int .i64 r.fn, .int .i64 r.code, .slice A4 n4 c4, .slice A5 n5 c5] := by rw [← hw2]; have := Held.new (w.alloc (.cells #[.int .i64 a.fn, .int .i64 a.addr, .int .i64 a.count, .int .i64 a.to, .slice A2 n2 c2, .slice A3 n3 c3] 25)) 34 #[.int .i64 r.fn, .int .i64 r.code, .slice A4 n4 c4, .slice A5 n5 c5]; rw [World.size_alloc] at this; exact this
  have HG2 := Lib.hid (fun X => great_any A2 A3 n2 c2 n3 c3 X)
  have HG4 := Lib.hid (fun X => great_any A4 A5 n4 c4 n5 c5 X)
  have hu := Tryd.underlying25
  have hu4 := Tryd.underlying34
  have hsz : (Tryd.prog.info? 25).map (·.size) = some 6 := by kernel_rfl
  have hsz4 : (Tryd.prog.info? 34).map (·.size) = some 4 := by kernel_rfl
  have HAL := Lib.hid (alive_own w2 (hT.up hb2))
  clear hT h2 h3 h4 h5 h3i h5i hB hb8
  have hb2w := hb2
  rw [e2] at HG2
  rw [e4] at HG4
  clear e2 e4
  go_in
  go_wp2_with fail
  refine HAL.out.mono ?_
  rintro e w3 ⟨rfl, hb3⟩
  have hb3w := hb2w.trans (hb3.mono hb2w.size)
  have hP3 := hP2.below hb3 hP2.lt
  have hQ3 := hQ2.below hb3 hQ2.lt
  have p3_4 : w3.cell? ⟨w.heap.size, 4, none⟩ = some (.slice A2 n2 c2) := hP3.cell 4
  have p3_5 : w3.cell? ⟨w.heap.size, 5, none⟩ = some (.slice A3 n3 c3) := hP3.cell 5
  have q3_2 : w3.cell? ⟨w.heap.size + 1, 2, none⟩ = some (.slice A4 n4 c4) := hQ3.cell 2
  have q3_3 : w3.cell? ⟨w.heap.size + 1, 3, none⟩ = some (.slice A5 n5 c5) := hQ3.cell 3
  go_wp2_with (first
  | (go_at_call 10; (with_reducible refine (HG2.out _).mono ?_); rintro e w' ⟨rfl, rfl⟩)
  | (go_at_call 10; (with_reducible refine (HG4.out _).mono ?_); rintro e w' ⟨rfl, rfl⟩))
  go_ret
  exact ⟨rfl, hb3w⟩
set_option maxRecDepth 100000 in
set_option maxHeartbeats 4000000 in
theorem rep_g5 (a : AskP) (r : RepP) (b : List Int) (A2 : Option Addr) (n2 c2 : Nat) (A3 : Option Addr) (n3 c3 : Nat) (A4 : Option Addr) (n4 c4 : Nat) (A5 : Option Addr) (n5 c5 : Nat) (B : Option Addr) (n c : Nat) (w : World) (hT : LimT w)
    (h2 : SlB w w.heap.size A2 n2 c2 a.bits) (h3 : SlI w w.heap.size .u16 A3 n3 c3 a.regs) (h3i : Reg16 a.regs) (h4 : SlB w w.heap.size A4 n4 c4 r.bits) (h5 : SlI w w.heap.size .u16 A5 n5 c5 r.regs) (h5i : Reg16 r.regs) (hB : SlI w w.heap.size .u8 B n c b) (hb8 : Byte8 b) (e2 : (decide (2500 < n2) || decide (300 < n3)) = false) (e4 : (decide (2500 < n4) || decide (300 < n5)) = false) (hn3 : (300 : Int) < (n : Int)) :
    Calls Tryd.prog 5 #[.agg #[.int .i64 a.fn, .int .i64 a.addr, .int .i64 a.count, .int .i64 a.to, .slice A2 n2 c2, .slice A3 n3 c3], .agg #[.int .i64 r.fn, .int .i64 r.code, .slice A4 n4 c4, .slice A5 n5 c5], .slice B n c] w fun e w' => e = .returned (.bool true) ∧ Below w.heap.size w w' := by
  obtain ⟨w2, hw2⟩ : ∃ w2, (w.alloc (.cells #[.int .i64 a.fn, .int .i64 a.addr, .int .i64 a.count, .int .i64 a.to, .slice A2 n2 c2, .slice A3 n3 c3] 25)).alloc (.cells #[.int .i64 r.fn, .int .i64 r.code, .slice A4 n4 c4, .slice A5 n5 c5] 34) = w2 := ⟨_, rfl⟩
  have hb2 : Below w.heap.size w w2 := by rw [← hw2]; exact (((Below.refl _ w).alloc (Nat.le_refl _) _).alloc (by simp) _)
  have hP2 : Held w2 w.heap.size 25 #[.int .i64 a.fn, .int .i64 a.addr, .int .i64 a.count, .int .i64 a.to, .slice A2 n2 c2, .slice A3 n3 c3] := by rw [← hw2]; exact (Held.new w _ _).alloc _
  have hQ2 : Held w2 (w.heap.size + 1) 34 #[.int .i64 r.fn, .int .i64 r.code, .slice A4 n4 c4, .slice A5 n5 c5] := by rw [← hw2]; have := Held.new (w.alloc (.cells #[.int .i64 a.fn, .int .i64 a.addr, .int .i64 a.count, .int .i64 a.to, .slice A2 n2 c2, .slice A3 n3 c3] 25)) 34 #[.int .i64 r.fn, .int .i64 r.code, .slice A4 n4 c4, .slice A5 n5 c5]; rw [World.size_alloc] at this; exact this
  have HG2 := Lib.hid (fun X => great_any A2 A3 n2 c2 n3 c3 X)
  have HG4 := Lib.hid (fun X => great_any A4 A5 n4 c4 n5 c5 X)
  have hu := Tryd.underlying25
  have hu4 := Tryd.underlying34
  have hsz : (Tryd.prog.info? 25).map (·.size) = some 6 := by kernel_rfl
  have hsz4 : (Tryd.prog.info? 34).map (·.size) = some 4 := by kernel_rfl
  have HAL := Lib.hid (alive_own w2 (hT.up hb2))
  clear hT h2 h3 h4 h5 h3i h5i hB hb8
  have hb2w := hb2
  rw [e2] at HG2
  rw [e4] at HG4
  clear e2 e4
  go_in
  go_wp2_with fail
  refine HAL.out.mono ?_
  rintro e w3 ⟨rfl, hb3⟩
  have hb3w := hb2w.trans (hb3.mono hb2w.size)
  have hP3 := hP2.below hb3 hP2.lt
  have hQ3 := hQ2.below hb3 hQ2.lt
  have p3_4 : w3.cell? ⟨w.heap.size, 4, none⟩ = some (.slice A2 n2 c2) := hP3.cell 4
  have p3_5 : w3.cell? ⟨w.heap.size, 5, none⟩ = some (.slice A3 n3 c3) := hP3.cell 5
  have q3_2 : w3.cell? ⟨w.heap.size + 1, 2, none⟩ = some (.slice A4 n4 c4) := hQ3.cell 2
  have q3_3 : w3.cell? ⟨w.heap.size + 1, 3, none⟩ = some (.slice A5 n5 c5) := hQ3.cell 3
  go_wp2_with (first
  | (go_at_call 10; (with_reducible refine (HG2.out _).mono ?_); rintro e w' ⟨rfl, rfl⟩)
  | (go_at_call 10; (with_reducible refine (HG4.out _).mono ?_); rintro e w' ⟨rfl, rfl⟩))
  go_ret
  exact ⟨rfl, hb3w⟩
theorem law_replies (a : AskP) (r : RepP) (b : List Int) (A2 : Option Addr) (n2 c2 : Nat) (A3 : Option Addr) (n3 c3 : Nat) (A4 : Option Addr) (n4 c4 : Nat) (A5 : Option Addr) (n5 c5 : Nat) (B : Option Addr) (n c : Nat) (w : World) (hT : LimT w)
    (h2 : SlB w w.heap.size A2 n2 c2 a.bits) (h3 : SlI w w.heap.size .u16 A3 n3 c3 a.regs) (h3i : Reg16 a.regs) (h4 : SlB w w.heap.size A4 n4 c4 r.bits) (h5 : SlI w w.heap.size .u16 A5 n5 c5 r.regs) (h5i : Reg16 r.regs) (hB : SlI w w.heap.size .u8 B n c b) (hb8 : Byte8 b) :
    Calls Tryd.prog 5 #[.agg #[.int .i64 a.fn, .int .i64 a.addr, .int .i64 a.count, .int .i64 a.to, .slice A2 n2 c2, .slice A3 n3 c3], .agg #[.int .i64 r.fn, .int .i64 r.code, .slice A4 n4 c4, .slice A5 n5 c5], .slice B n c] w fun e w' => e = .returned (.bool true) ∧ Below w.heap.size w w' := by
  by_cases k2 : 2500 < n2 ∨ 300 < n3
  · exact rep_g2 a r b A2 n2 c2 A3 n3 c3 A4 n4 c4 A5 n5 c5 B n c w hT h2 h3 h3i h4 h5 h5i hB hb8 (by simp; omega)
  by_cases k4 : 2500 < n4 ∨ 300 < n5
  · exact rep_g4 a r b A2 n2 c2 A3 n3 c3 A4 n4 c4 A5 n5 c5 B n c w hT h2 h3 h3i h4 h5 h5i hB hb8 (by simp; omega) (by simp; omega)
  by_cases k5 : 300 < n
  · exact rep_g5 a r b A2 n2 c2 A3 n3 c3 A4 n4 c4 A5 n5 c5 B n c w hT h2 h3 h3i h4 h5 h5i hB hb8 (by simp; omega) (by simp; omega) (by omega)
  have hbl := hB.1
  obtain ⟨z1, z2, z3⟩ := read_sizes a b hb8 (by omega)
  cases ho : answerP a r with
  | none =>
    have L8 : Byte8 ([] : List Int) := fun x hx => by cases hx
    cases hb : readAnswerP a b with
    | none =>
      rw [hb] at z1 z2 z3
      exact rep_none_none a r b A2 n2 c2 A3 n3 c3 A4 n4 c4 A5 n5 c5 B n c w hT h2 h3 h3i h4 h5 h5i hB hb8 [] _ (by rw [ho]; rfl) rfl L8 (by simp) _ _ rfl rfl rep0 190 (by rw [hb]; rfl) (by rw [hb]; rfl) z1 z2 z3 _ _ rfl rfl (by omega) (by omega) (by omega) (by omega) (by omega) (by rw [ho]; rfl) rfl
    | some q =>
      have hbk := reply_back a b q hb
      rw [hb] at z1 z2 z3
      exact rep_none_some a r b A2 n2 c2 A3 n3 c3 A4 n4 c4 A5 n5 c5 B n c w hT h2 h3 h3i h4 h5 h5i hB hb8 [] _ (by rw [ho]; rfl) rfl L8 (by simp) _ _ rfl rfl q 0 (by rw [hb]; rfl) (by rw [hb]; rfl) z1 z2 z3 b 0 (by rw [hbk]; rfl) (by rw [hbk]; rfl) (by omega) (by omega) (by omega) (by omega) (by omega) (by rw [ho]; rfl) rfl rfl rfl
  | some x =>
    obtain ⟨y1, y2, y3, y4, y5⟩ := reply_read a r x h5i h3i ho
    cases hb : readAnswerP a b with
    | none =>
      rw [hb] at z1 z2 z3
      by_cases hrc : 0 < r.code
      · exact rep_exc_none a r b A2 n2 c2 A3 n3 c3 A4 n4 c4 A5 n5 c5 B n c w hT h2 h3 h3i h4 h5 h5i hB hb8 x _ (by rw [ho]; rfl) rfl y4 y3 r _ (by rw [y1]; rfl) rfl rep0 190 (by rw [hb]; rfl) (by rw [hb]; rfl) z1 z2 z3 _ _ rfl rfl (by omega) (by omega) (by omega) (by omega) (by omega) (by rw [ho]; rfl) rfl (by rw [y1]; rfl) rfl y2 y3 y5 hrc
      · exact rep_ok_none a r b A2 n2 c2 A3 n3 c3 A4 n4 c4 A5 n5 c5 B n c w hT h2 h3 h3i h4 h5 h5i hB hb8 x _ (by rw [ho]; rfl) rfl y4 y3 r _ (by rw [y1]; rfl) rfl rep0 190 (by rw [hb]; rfl) (by rw [hb]; rfl) z1 z2 z3 _ _ rfl rfl (by omega) (by omega) (by omega) (by omega) (by omega) (by rw [ho]; rfl) rfl (by rw [y1]; rfl) rfl y2 y3 y5 hrc
    | some q =>
      have hbk := reply_back a b q hb
      rw [hb] at z1 z2 z3
      by_cases hrc : 0 < r.code
      · exact rep_exc_some a r b A2 n2 c2 A3 n3 c3 A4 n4 c4 A5 n5 c5 B n c w hT h2 h3 h3i h4 h5 h5i hB hb8 x _ (by rw [ho]; rfl) rfl y4 y3 r _ (by rw [y1]; rfl) rfl q 0 (by rw [hb]; rfl) (by rw [hb]; rfl) z1 z2 z3 b 0 (by rw [hbk]; rfl) (by rw [hbk]; rfl) (by omega) (by omega) (by omega) (by omega) (by omega) (by rw [ho]; rfl) rfl (by rw [y1]; rfl) rfl y2 y3 y5 hrc rfl rfl
      · exact rep_ok_some a r b A2 n2 c2 A3 n3 c3 A4 n4 c4 A5 n5 c5 B n c w hT h2 h3 h3i h4 h5 h5i hB hb8 x _ (by rw [ho]; rfl) rfl y4 y3 r _ (by rw [y1]; rfl) rfl q 0 (by rw [hb]; rfl) (by rw [hb]; rfl) z1 z2 z3 b 0 (by rw [hbk]; rfl) (by rw [hbk]; rfl) (by omega) (by omega) (by omega) (by omega) (by omega) (by rw [ho]; rfl) rfl (by rw [y1]; rfl) rfl y2 y3 y5 hrc rfl rfl
end Go.Proofs.YtflbiichdjhaeaaDoor
