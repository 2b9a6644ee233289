/- The law PduBits. -/
import Derived.Test.YtflbiichdjhaeaaPduBitsBig
import Derived.Test.YtflbiichdjhaeaaPduBitsNeg
import Derived.Test.YtflbiichdjhaeaaPduBitsSome
import Derived.Test.YtflbiichdjhaeaaQuiet
import Derived.IntWalk
namespace Go.Proofs.Ytflbiichdjhaeaa
open Go.RowKit


set_option maxRecDepth 100000 in
set_option maxHeartbeats 4000000 in
theorem law_bits (A0 : Option Addr) (n0 c0 : Nat) (l : List Bool) (A1 : Option Addr) (n1 c1 : Nat) (b : List Int) (n fn code : Int) (p q : AskP) (A2 : Option Addr) (n2 c2 : Nat) (A3 : Option Addr) (n3 c3 : Nat) (A4 : Option Addr) (n4 c4 : Nat) (A5 : Option Addr) (n5 c5 : Nat) (w : World)
    (h0 : SlB w w.heap.size A0 n0 c0 l) (h1 : SlI w w.heap.size .u8 A1 n1 c1 b) (h1i : ∀ x ∈ b, 0 ≤ x ∧ x < 256) (hn : -9223372036854775808 ≤ n ∧ n ≤ 9223372036854775807)
    (h2 : SlB w w.heap.size A2 n2 c2 p.bits) (h3 : SlI w w.heap.size .u16 A3 n3 c3 p.regs) (h4 : SlB w w.heap.size A4 n4 c4 q.bits) (h5 : SlI w w.heap.size .u16 A5 n5 c5 q.regs) :
    Calls Try.prog 3 #[.slice A0 n0 c0, .slice A1 n1 c1, .int .i64 n, .int .i64 fn, .int .i64 code, .agg #[.int .i64 p.fn, .int .i64 p.addr, .int .i64 p.count, .int .i64 p.to, .slice A2 n2 c2, .slice A3 n3 c3], .agg #[.int .i64 q.fn, .int .i64 q.addr, .int .i64 q.count, .int .i64 q.to, .slice A4 n4 c4, .slice A5 n5 c5]] w fun e w' => e = .returned (.bool true) ∧ Below w.heap.size w w' := by
  obtain ⟨w2, hw2⟩ : ∃ w2, (w.alloc (.cells #[.int .i64 p.fn, .int .i64 p.addr, .int .i64 p.count, .int .i64 p.to, .slice A2 n2 c2, .slice A3 n3 c3] 26)).alloc (.cells #[.int .i64 q.fn, .int .i64 q.addr, .int .i64 q.count, .int .i64 q.to, .slice A4 n4 c4, .slice A5 n5 c5] 26) = w2 := ⟨_, rfl⟩
  have hb2 : Below w.heap.size w w2 := by rw [← hw2]; exact (((Below.refl _ w).alloc (Nat.le_refl _) _).alloc (by simp) _)
  have hs2 : w2.heap.size = w.heap.size + 2 := by rw [← hw2]; simp
  have hP2 : Held w2 w.heap.size 26 #[.int .i64 p.fn, .int .i64 p.addr, .int .i64 p.count, .int .i64 p.to, .slice A2 n2 c2, .slice A3 n3 c3] := by rw [← hw2]; exact (Held.new w _ _).alloc _
  have hQ2 : Held w2 (w.heap.size + 1) 26 #[.int .i64 q.fn, .int .i64 q.addr, .int .i64 q.count, .int .i64 q.to, .slice A4 n4 c4, .slice A5 n5 c5] := by rw [← hw2]; have := Held.new (w.alloc (.cells #[.int .i64 p.fn, .int .i64 p.addr, .int .i64 p.count, .int .i64 p.to, .slice A2 n2 c2, .slice A3 n3 c3] 26)) 26 #[.int .i64 q.fn, .int .i64 q.addr, .int .i64 q.count, .int .i64 q.to, .slice A4 n4 c4, .slice A5 n5 c5]; rw [World.size_alloc] at this; exact this
  have p4 : w2.cell? ⟨w.heap.size, 4, none⟩ = some (.slice A2 n2 c2) := hP2.cell 4
  have p5 : w2.cell? ⟨w.heap.size, 5, none⟩ = some (.slice A3 n3 c3) := hP2.cell 5
  have q4 : w2.cell? ⟨w.heap.size + 1, 4, none⟩ = some (.slice A4 n4 c4) := hQ2.cell 4
  have q5 : w2.cell? ⟨w.heap.size + 1, 5, none⟩ = some (.slice A5 n5 c5) := hQ2.cell 5
  have HG2 := Lib.hid (fun X => great_any A2 A3 n2 c2 n3 c3 X)
  have HG4 := Lib.hid (fun X => great_any A4 A5 n4 c4 n5 c5 X)
  obtain ⟨g2, hg2⟩ : ∃ g, (decide (2500 < n2) || decide (300 < n3)) = g := ⟨_, rfl⟩
  obtain ⟨g4, hg4⟩ : ∃ g, (decide (2500 < n4) || decide (300 < n5)) = g := ⟨_, rfl⟩
  rw [hg2] at HG2
  rw [hg4] at HG4
  have HL2 := Lib.hid hg2
  have HL4 := Lib.hid hg4
  clear hg2 hg4
  by_cases e1 : 2500 < n0
  · skip
    clear h0 h1 h1i h2 h3 h4 h5
    go_in
    go_wp2_with fail
    go_ret
    exact ⟨rfl, hb2⟩
  by_cases e2 : 300 < n1
  · skip
    clear h0 h1 h1i h2 h3 h4 h5
    go_in
    go_wp2_with fail
    go_ret
    exact ⟨rfl, hb2⟩
  by_cases e3 : 5000 < n ∧ n ≤ 100000
  · obtain ⟨e3, e4⟩ := e3
    clear h0 h1 h1i h2 h3 h4 h5
    go_in
    go_wp2_with fail
    go_ret
    exact ⟨rfl, hb2⟩
  cases g2 with
  | true =>
    by_cases ebig : 100000 < n
    · skip
      clear h0 h1 h1i h2 h3 h4 h5
      go_in
      go_wp2_with (first
      | (go_at_call 4; (with_reducible refine (HG2.out _).mono ?_); rintro e w' ⟨rfl, rfl⟩)
      | (go_at_call 4; (with_reducible refine (HG4.out _).mono ?_); rintro e w' ⟨rfl, rfl⟩))
      go_ret
      exact ⟨rfl, hb2⟩
    · have e5 : n ≤ 5000 := by omega
      clear h0 h1 h1i h2 h3 h4 h5
      go_in
      go_wp2_with (first
      | (go_at_call 4; (with_reducible refine (HG2.out _).mono ?_); rintro e w' ⟨rfl, rfl⟩)
      | (go_at_call 4; (with_reducible refine (HG4.out _).mono ?_); rintro e w' ⟨rfl, rfl⟩))
      go_ret
      exact ⟨rfl, hb2⟩
  | false =>
    cases g4 with
    | true =>
      by_cases ebig : 100000 < n
      · skip
        clear h0 h1 h1i h2 h3 h4 h5
        go_in
        go_wp2_with (first
      | (go_at_call 4; (with_reducible refine (HG2.out _).mono ?_); rintro e w' ⟨rfl, rfl⟩)
      | (go_at_call 4; (with_reducible refine (HG4.out _).mono ?_); rintro e w' ⟨rfl, rfl⟩))
        go_ret
        exact ⟨rfl, hb2⟩
      · have e5 : n ≤ 5000 := by omega
        clear h0 h1 h1i h2 h3 h4 h5
        go_in
        go_wp2_with (first
      | (go_at_call 4; (with_reducible refine (HG2.out _).mono ?_); rintro e w' ⟨rfl, rfl⟩)
      | (go_at_call 4; (with_reducible refine (HG4.out _).mono ?_); rintro e w' ⟨rfl, rfl⟩))
        go_ret
        exact ⟨rfl, hb2⟩
    | false =>
      by_cases ebig : 100000 < n
      · exact bits_big A0 n0 c0 l A1 n1 c1 b n fn code p q A2 n2 c2 A3 n3 c3 A4 n4 c4 A5 n5 c5 w h0 h1 h1i hn h2 h3 h4 h5 e1 e2 HL2.out HL4.out ebig
      · by_cases e6 : n ≤ 0
        · exact bits_neg A0 n0 c0 l A1 n1 c1 b n fn code p q A2 n2 c2 A3 n3 c3 A4 n4 c4 A5 n5 c5 w h0 h1 h1i hn h2 h3 h4 h5 e1 e2 HL2.out HL4.out (by omega) e6
        · exact bits_some A0 n0 c0 l A1 n1 c1 b n fn code p q A2 n2 c2 A3 n3 c3 A4 n4 c4 A5 n5 c5 w h0 h1 h1i hn h2 h3 h4 h5 e1 e2 HL2.out HL4.out (by omega) e6
end Go.Proofs.Ytflbiichdjhaeaa
