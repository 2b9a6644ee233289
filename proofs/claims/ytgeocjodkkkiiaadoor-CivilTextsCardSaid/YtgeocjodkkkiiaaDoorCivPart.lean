/- civil.part and the reference's number. -/
import Derived.Test.YtgeocjodkkkiiaaDoorCivDigits
import Derived.Laws.RangeAny
namespace Go.Proofs.YtgeocjodkkkiiaaDoor
open Go.RowKit

theorem numL_bad (l : List Int) (k : Nat) (n : Int) (c : Int) (h : l[k]? = some c) (hc : digB c = false) : numL (l.drop k) n = -1 := by
  have hk := (List.getElem?_eq_some_iff.1 h).1
  rw [List.drop_eq_getElem_cons hk]
  have e : l[k] = c := by rw [List.getElem?_eq_getElem hk] at h; injection h
  rw [e, numL, if_neg (by rw [hc]; decide)]
theorem numL_good (l : List Int) (k : Nat) (n : Int) (c : Int) (h : l[k]? = some c) (hc : digB c = true) : numL (l.drop k) n = numL (l.drop (k + 1)) (n * 10 + (c - 48)) := by
  have hk := (List.getElem?_eq_some_iff.1 h).1
  rw [List.drop_eq_getElem_cons hk]
  have e : l[k] = c := by rw [List.getElem?_eq_getElem hk] at h; injection h
  rw [e, numL, if_pos hc]

set_option maxHeartbeats 1000000 in
theorem number_ref (s : ByteArray) (hs : s.size ≤ 4) (w : World) : Calls Tryd.prog 40 #[.string s] w fun e w' => e = .returned (.int .i64 (numL (bytesS s) 0)) ∧ w = w' := by
  go_in
  go_wp2
  go_loop [3, 4] (fun n i => ∃ (k : Nat) (q : Int), k ≤ s.size ∧ 0 ≤ q ∧ (k = 0 → q = 0) ∧ (k = 1 → q ≤ 9) ∧ (k = 2 → q ≤ 99) ∧ (k = 3 → q ≤ 999) ∧ q ≤ 9999 ∧ i = .int .i64 k ∧ n = .int .i64 q ∧ numL (bytesS s) 0 = numL ((bytesS s).drop k) q) (fun _ i => s.size - (intOf i).toNat)
  case atStart => exact ⟨0, 0, by omega, by omega, by omega, by omega, by omega, by omega, by omega, rfl, rfl, rfl⟩
  case round =>
    obtain ⟨k, q, hk, q0, q1, q2, q3, q4, q5, rfl, rfl, hq⟩ := hrel
    have HQ := Lib.hid hq
    clear hq
    by_cases hlt : k < s.size
    · have hb := bytesS_at s k hlt
      have hbb := (s[k]'hlt).toNat_lt
      cases hd : digB ((s[k]'hlt).toNat : Int) with
      | true =>
        have hd' : (48 : Int) ≤ ((s[k]'hlt).toNat : Int) ∧ ((s[k]'hlt).toNat : Int) ≤ 57 := by simpa [digB] using hd
        have HG := Lib.hid (numL_good (bytesS s) k q _ hb hd)
        clear hb hd
        go_wp2
        go_round
        case rel => exact ⟨k + 1, _, by omega, by omega, by omega, by omega, by omega, by omega, by omega, by go_num, rfl, by rw [HQ.out, HG.out]; congr 1; omega⟩
        case measure => simp [intOf]; omega
      | false =>
        have HG := Lib.hid (show numL (bytesS s) 0 = -1 by rw [HQ.out]; exact numL_bad (bytesS s) k q _ hb hd)
        have hd' : ¬ ((48 : Int) ≤ ((s[k]'hlt).toNat : Int) ∧ ((s[k]'hlt).toNat : Int) ≤ 57) := by simpa [digB] using hd
        clear hb hd
        by_cases h48 : ((s[k]'hlt).toNat : Int) < 48
        · go_wp2
          go_ret
          exact ⟨reti HG.out.symm, rfl⟩
        · have h57 : (57 : Int) < ((s[k]'hlt).toNat : Int) := by omega
          go_wp2
          go_ret
          exact ⟨reti HG.out.symm, rfl⟩
    · have HE := Lib.hid (show numL (bytesS s) 0 = q by
        rw [HQ.out, List.drop_of_length_le (by rw [bytesS_len]; omega)]; rfl)
      go_wp2
      go_ret
      exact ⟨reti HE.out.symm, rfl⟩

set_option maxHeartbeats 1000000 in
theorem part_own (s : ByteArray) (a b : Nat) (hab : a ≤ b) (hbs : b ≤ s.size) (h4 : b - a ≤ 4) (w : World) : Calls Tryd.prog 39 #[.string s, .int .i64 a, .int .i64 b] w fun e w' => e = .returned (.int .i64 (numL (((bytesS s).drop a).take (b - a)) 0)) ∧ Below w.heap.size w w' := by
  have h1 : (a : Int) ≤ (b : Int) := by omega
  have h2 : (b : Int) ≤ (s.size : Int) := by omega
  obtain ⟨t, ht⟩ : ∃ t, t = s.extract a b := ⟨_, rfl⟩
  have hts : t.size ≤ 4 := by rw [ht, ByteArray.size_extract]; omega
  have HB := Lib.hid (show ((bytesS s).drop a).take (b - a) = bytesS t by
    rw [ht]; simp [bytesS, List.map_take, List.map_drop])
  have HT := Lib.hid ht
  clear ht
  go_in
  go_wp2
  rw [← HT.out]
  go_loopw [7] (fun n wr => ∃ (k : Nat) (q : Int), k ≤ t.size ∧ 0 ≤ q ∧ (k = 0 → q = 0) ∧ (k = 1 → q ≤ 9) ∧ (k = 2 → q ≤ 99) ∧ (k = 3 → q ≤ 999) ∧ q ≤ 9999 ∧ wr = w.iter t k ∧ n = .int .i64 q ∧ numL (bytesS t) 0 = numL ((bytesS t).drop k) q) (fun _ wr => t.size - wr.iterPos w.heap.size)
  case atStart => exact ⟨0, 0, by omega, by omega, by omega, by omega, by omega, by omega, by omega, rfl, rfl, rfl⟩
  case round =>
    obtain ⟨k, q, hk, q0, q1, q2, q3, q4, q5, rfl, rfl, hq⟩ := hrel
    have HQ := Lib.hid hq
    clear hq
    have hbel : Below w.heap.size w (w.iter t k) := below_alloc (Below.refl _ _) _
    by_cases hlt : k < t.size
    · have hb := bytesS_at t k hlt
      have hbb := (t[k]'hlt).toNat_lt
      cases hd : digB ((t[k]'hlt).toNat : Int) with
      | true =>
        have hd' : (48 : Int) ≤ ((t[k]'hlt).toNat : Int) ∧ ((t[k]'hlt).toNat : Int) ≤ 57 := by simpa [digB] using hd
        have HG := Lib.hid (numL_good (bytesS t) k q _ hb hd)
        have hnx := fun ty => run_next_ascii (P := Tryd.prog) w t k ty hlt (by omega)
        clear hb hd
        go_wp2
        go_roundw
        case rel => exact ⟨k + 1, _, by omega, by omega, by omega, by omega, by omega, by omega, by omega, rfl, rfl, by rw [HQ.out, HG.out]⟩
        case measure => simp; omega
      | false =>
        have HG := Lib.hid (show numL (bytesS t) 0 = -1 by rw [HQ.out]; exact numL_bad (bytesS t) k q _ hb hd)
        have hd' : ¬ ((48 : Int) ≤ ((t[k]'hlt).toNat : Int) ∧ ((t[k]'hlt).toNat : Int) ≤ 57) := by simpa [digB] using hd
        clear hb hd
        have fin : ∀ p, Ending.returned (.int .i64 (-1)) = .returned (.int .i64 (numL (((bytesS s).drop a).take (b - a)) 0)) ∧ Below w.heap.size w (w.iter t p) := fun p => ⟨by rw [HB.out, HG.out], below_alloc (Below.refl _ _) _⟩
        have FIN := Lib.hid fin
        clear fin
        by_cases ha : (t[k]'hlt).toNat < 128
        · have hnx := fun ty => run_next_ascii (P := Tryd.prog) w t k ty hlt ha
          by_cases h48 : ((t[k]'hlt).toNat : Int) < 48
          · go_wp2
            go_ret
            exact FIN.out _
          · have h57 : (57 : Int) < ((t[k]'hlt).toNat : Int) := by omega
            go_wp2
            go_ret
            exact FIN.out _
        · have hnx := fun ty => run_next_any (P := Tryd.prog) w t k ty hlt
          have hhi := decode_high t k hlt (by omega)
          have hle := decode_le t k
          obtain ⟨r, hr⟩ : ∃ r, (Utf8.decode t k).1 = r := ⟨_, rfl⟩
          rw [hr] at hnx hhi hle
          generalize (Utf8.decode t k).2 = p at hnx
          clear hr
          have h57 : (57 : Int) < (r : Int) := by omega
          go_wp2
          go_ret
          exact FIN.out _
    · have HE := Lib.hid (show numL (bytesS t) 0 = q by
        rw [HQ.out, List.drop_of_length_le (by rw [bytesS_len]; omega)]; rfl)
      have hnx := fun ty => run_next_end (P := Tryd.prog) w t k ty hlt
      go_wp2
      go_ret
      exact ⟨reti (by rw [HB.out]; exact HE.out.symm), hbel⟩
end Go.Proofs.YtgeocjodkkkiiaaDoor
