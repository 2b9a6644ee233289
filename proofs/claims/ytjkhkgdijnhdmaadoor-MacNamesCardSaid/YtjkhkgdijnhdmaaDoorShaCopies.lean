/- The law ShaCopies. -/
import Derived.Test.YtjkhkgdijnhdmaaDoorShaBackP
namespace Go.Proofs.YtjkhkgdijnhdmaaDoor
open Go.RowKit

theorem eql_arr8 (D : List Nat) (hl : D.length = 32) (hi : ∀ x ∈ D, x < 256) (w : World) : (binOp .eql 35 (.agg (arr8 D)) (.agg (arr8 D))).run Tryd.prog w = .ok (.bool true) w :=
  eql_hash 35 Tryd.underlying35 (nI D) (by rw [nI_len]; exact hl) (fun x hx => by
    simp only [nI, List.mem_map] at hx
    obtain ⟨y, hy, rfl⟩ := hx
    have := hi y hy
    omega) w
theorem eql_digest (l : List Nat) (w : World) : (binOp .eql 35 (.agg (arr8 (Sh.digest l))) (.agg (arr8 (Sh.digest l)))).run Tryd.prog w = .ok (.bool true) w := eql_arr8 _ (Sh.digest_len l) (Sh.digest_in l) w
theorem neq_digest (l : List Nat) (w : World) : (Op.equalIn 10000 35 (.agg (arr8 (Sh.digest l))) (.agg (arr8 (Sh.digest l)))).run Tryd.prog w = .ok true w := by
  have hi : ∀ x ∈ nI (Sh.digest l), 0 ≤ x ∧ x < 256 := fun x hx => by
    simp only [nI, List.mem_map] at hx
    obtain ⟨y, hy, rfl⟩ := hx
    have := Sh.digest_in l y hy
    omega
  have e : arr8 (Sh.digest l) = ((bytesOf (nI (Sh.digest l))).map Extern.Stop.cell).toArray := by
    unfold arr8
    congr 1
    exact (byteCells_of _ hi).symm
  have hl : (bytesOf (nI (Sh.digest l))).length = 32 := by simp [bytesOf, nI]; exact Sh.digest_len l
  rw [e, run_equalIn_bytes w 9998 35 5 32 Tryd.underlying35 Tryd.underlying5 Tryd.sizeOf5 _ _ hl hl]
  simp
/-- The bytes that came in, in numbers from nought up. -/
theorem nat_of {xs : List Int} (h : ∀ x ∈ xs, 0 ≤ x ∧ x < 256) : ∃ xb : List Nat, xs = nI xb ∧ ∀ x ∈ xb, x < 256 := by
  refine ⟨xs.map Int.toNat, ?_, ?_⟩
  · unfold nI
    rw [List.map_map]
    have e : xs.map ((fun (x : Nat) => (x : Int)) ∘ Int.toNat) = xs.map id := List.map_congr_left (fun x hx => by have := h x hx; simp; omega)
    rw [e, List.map_id]
  · intro x hx
    simp only [List.mem_map] at hx
    obtain ⟨y, hy, rfl⟩ := hx
    have := h y hy
    omega
/-- Another's writing leaves this one. -/
theorem ShaAt.apart {w w' : World} {B g g' : Nat} {v v' : Value} {all : List Nat} (h : ShaAt w B g v all) (hK : KeepW w w' g' v') (h1 : g ≠ g') (h2 : some g ≠ v'.ownBlock) (h3 : ∀ b, v.ownBlock = some b → b ≠ g' ∧ some b ≠ v'.ownBlock) : ShaAt w' B g v all :=
  h.keep (hK.block g h.lt.1 h1 h2) (fun b e => hK.block b (h.lt.2 b e).2 (h3 b e).1 (h3 b e).2)

theorem SlI.ne {w : World} {B : Nat} {k : IntKind} {A : Option Addr} {n c : Nat} {xs : List Int} (h : SlI w B k A n c xs) (g : Nat) (hg : B ≤ g) : 0 < n → ∀ a, A = some a → a.block ≠ g := fun hn a ha => by
  obtain ⟨g', off, e, hb⟩ := h.some_ hn
  rw [ha] at e
  injection e with e
  rw [e]
  show g' ≠ g
  omega
theorem own_up {w w' : World} {B n : Nat} {e : TypeId} {v : Value} {xs : List Value} (h : w.ownsRow B e 1 v n xs) (hb : Below w.heap.size w w') : w'.ownsRow B e 1 v n xs := own_same h fun b hb' => hb.block b (h.lt b hb').2
set_option maxRecDepth 100000 in
set_option maxHeartbeats 4000000 in
theorem law_copies (A0 : Option Addr) (c0 : Nat) (xa : List Nat) (A1 : Option Addr) (c1 : Nat) (xb : List Nat) (A2 : Option Addr) (c2 : Nat) (xc : List Nat) (w : World) (hT : Tab w 0 .u32 firstI) (hT2 : Tab w 1 .u32 kI)
    (hA : SlI w w.heap.size .u8 A0 xa.length c0 (nI xa)) (hB : SlI w w.heap.size .u8 A1 xb.length c1 (nI xb)) (hC : SlI w w.heap.size .u8 A2 xc.length c2 (nI xc)) (ha : ∀ x ∈ xa, x < 256) (hb : ∀ x ∈ xb, x < 256) (hc : ∀ x ∈ xc, x < 256) :
    Calls Tryd.prog 6 #[.slice A0 xa.length c0, .slice A1 xb.length c1, .slice A2 xc.length c2] w fun e w' => e = .returned (.bool true) ∧ Below w.heap.size w w' := by
  have HAL := Lib.hid (alive_own w hT hT2)
  have HT := Lib.hid (fun (W : World) (h : Below w.heap.size w W) => And.intro (hT.up h) (hT2.up h))
  have hf := hT.lt (by decide)
  have hk := hT2.lt (by decide)
  clear hT hT2
  by_cases hs : xa.length ≤ 1000 ∧ xb.length ≤ 1000 ∧ xc.length ≤ 1000
  · obtain ⟨ls1, ls2, ls3⟩ := hs
    have HA := Lib.hid hA
    have HB := Lib.hid hB
    have HC := Lib.hid hC
    have Ha := Lib.hid ha
    have Hb := Lib.hid hb
    have Hc := Lib.hid hc
    clear hA hB hC ha hb hc
    obtain ⟨i0, hi, hz0, hz1, hz2⟩ := info_parts infoB
    go_in
    go_wp2_with fail
    refine HAL.out.mono ?_
    rintro e w1 ⟨rfl, hb1⟩
    have hz1' := hb1.size
    go_wp2_with fail
    obtain ⟨w2, hw2⟩ : ∃ w2, w1.alloc (.cells (shC st0 (.slice none 0 0) 0 false) 30) = w2 := ⟨_, rfl⟩
    have hb2 : Below w.heap.size w w2 := by rw [← hw2]; exact hb1.alloc hz1' _
    have hS2 : Held w2 w1.heap.size 30 (shC st0 (.slice none 0 0) 0 false) := by rw [← hw2]; exact Held.new _ _ _
    have hz2' : w2.heap.size = w1.heap.size + 1 := by rw [← hw2]; simp
    change Calls _ _ _ (w1.alloc (.cells (shC st0 (.slice none 0 0) 0 false) 30)) _
    rw [hw2]
    clear hw2 hb1
    generalize w1.heap.size = g at hz1' hS2 hz2' ⊢
    refine ((callsIn_wide (n := 6)).1 (write_in w.heap.size g (.slice none 0 0) [] xa A0 c0 w2 (by omega) hf hk (HT.out w2 hb2).1 (HT.out w2 hb2).2 (ShaAt.fresh hS2 hz1') (HA.out.up hb2) (HA.out.ne g hz1') Ha.out (by simp; omega))).mono ?_
    rintro e w3 ⟨⟨u3, rfl⟩, v3, hS3, hK3, hv3⟩
    rw [List.nil_append] at hS3
    have hb3 : Below w.heap.size w w3 := hb2.trans (hK3.below (by omega) hz1' (fun k e => by simp [Value.ownBlock] at e))
    have hl3 := hS3.lt
    clear hS2 hK3 hv3 hz2' hb2
    go_wp2_with fail
    refine (copy_own w.heap.size g v3 xa w3 hS3).mono ?_
    rintro e w4 ⟨v4, rfl, hC4, hb4⟩
    have hS4 := hS3.below hb4
    have hb4' := hb3.trans (hb4.mono hb3.size)
    have hl4 := hC4.lt
    have hz3 := hb3.size
    have hz4 := hb4.size
    clear hS3 hb3 hb4
    generalize w3.heap.size = gt at hC4 hl3 hl4 hz3 hz4 ⊢
    have HZT := Lib.hid hz3
    go_wp2_with fail
    refine ((callsIn_wide (n := 6)).1 (write_in w.heap.size g v3 xa xb A1 c1 w4 (by omega) hf hk (HT.out w4 hb4').1 (HT.out w4 hb4').2 hS4 (HB.out.up hb4') (HB.out.ne g hz1') Hb.out (by omega))).mono ?_
    rintro e w5 ⟨⟨u5, rfl⟩, v5, hS5, hK5, hv5⟩
    have hC5 := hC4.apart hK5 (by omega) (fun e => by have := hl3.2 _ e.symm; omega) (fun b e => ⟨by have := hl4.2 b e; omega, fun e' => by have := hl4.2 b e; have := hl3.2 b e'.symm; omega⟩)
    have hb5 : Below w.heap.size w w5 := hb4'.trans (hK5.below (by omega) hz1' (fun k e => (hl3.2 k e).1))
    have hz5 := hK5.size
    clear hS4 hC4 hK5 hb4'
    go_wp2_with fail
    refine ((callsIn_wide (n := 6)).1 (write_in gt gt v4 xa xc A2 c2 w5 (by omega) (by omega) (by omega) (HT.out w5 hb5).1 (HT.out w5 hb5).2 hC5 (HC.out.up hb5) (HC.out.ne gt (by omega)) Hc.out (by omega))).mono ?_
    rintro e w6 ⟨⟨u6, rfl⟩, v6, hC6, hK6, hv6⟩
    have hS6 := hS5.apart hK6 (by omega) (fun e => by have := hl4.2 _ e.symm; omega) (fun b e => ⟨by have := hv5 b e; omega, fun e' => by have := hv5 b e; have := hl4.2 b e'.symm; omega⟩)
    have hb6 : Below w.heap.size w w6 := hb5.trans (hK6.below (by omega) (by omega) (fun k e => by have := (hl4.2 k e).1; omega))
    have hz6 := hb6.size
    clear hS5 hC5 hK6 hb5 hv5 hv6 hl3 hl4 hz5 hz4 hz3
    have sA6 := (HA.out.up hb6).alloc (.cells #[] 5)
    have HM1 := Lib.hid (show 0 + xa.length ≤ maxLen ∧ (0 + xa.length) * 1 ≤ 140737488355328 ∧ w6.heap.size ≤ (w6.alloc (.cells #[] 5)).heap.size by unfold maxLen; simp; omega)
    have HM2 := Lib.hid (show xa.length + xb.length ≤ maxLen ∧ (xa.length + xb.length) * 1 ≤ 140737488355328 ∧ xa.length + xc.length ≤ maxLen ∧ (xa.length + xc.length) * 1 ≤ 140737488355328 by unfold maxLen; omega)
    have HB6 := Lib.hid hb6
    have HS6 := Lib.hid hS6
    have HC6 := Lib.hid hC6
    clear hb6 hS6 hC6
    go_wp2_with (first
      | ((with_reducible refine at_append ?_); refine wpList_append_sl (w6.alloc (.cells #[] 5)) rfl (.tmp 44) (.tmp 45) 27 rfl w6.heap.size 5 i0 (.int .u8 0) 1 Tryd.underlying27 hi hz0 hz1 hz2 rfl (.slice (some ⟨w6.heap.size, 0, none⟩) 0 0) 0 [] rfl (World.ownsRow_lit w6 #[] 0 (Nat.le_refl _) (by unfold maxLen; omega) rfl) _ .u8 A0 xa.length c0 (nI xa) rfl sA6 HM1.out.1 HM1.out.2.1 HM1.out.2.2 ?_
         intro v7 w7 hO7 hg7 hv7
         simp only [Nat.zero_add, List.nil_append] at hO7
         obtain ⟨A7, c7, rfl, hs7⟩ := SlI.of_own hO7
         have hb7 : Below w6.heap.size w6 w7 := ((Below.refl _ w6).alloc (Nat.le_refl _) _).grown hg7 (by simp) (fun k e => by simp [Value.ownBlock] at e; omega)
         have hz7 : w6.heap.size ≤ w7.heap.size := hb7.size
         have sB7 := HB.out.up (HB6.out.trans (hb7.mono hz6)))
      | ((with_reducible refine at_append ?_); refine wpList_append_sl w7 rfl (.tmp 46) (.tmp 47) 27 rfl w6.heap.size 5 i0 (.int .u8 0) 1 Tryd.underlying27 hi hz0 hz1 hz2 rfl (.slice A7 xa.length c7) xa.length _ rfl hO7 _ .u8 A1 xb.length c1 (nI xb) rfl sB7 HM2.out.1 HM2.out.2.1 hz7 ?_
         intro v8 w8 hO8 hg8 hv8
         rw [← List.map_append, show nI xa ++ nI xb = nI (xa ++ xb) by simp [nI]] at hO8
         obtain ⟨A8, c8, rfl, hs8⟩ := SlI.of_own hO8
         have hb8 : Below w6.heap.size w6 w8 := hb7.grown hg8 hz7 (fun k e => (hO7.lt k e).1)
         have hz8 : w6.heap.size ≤ w8.heap.size := hb8.size
         have sA8 := (HA.out.up (HB6.out.trans (hb8.mono hz6))).alloc (.cells #[] 5)
         have HM3 := Lib.hid (show w8.heap.size ≤ (w8.alloc (.cells #[] 5)).heap.size by simp))
      | ((with_reducible refine at_append ?_); refine wpList_append_sl (w8.alloc (.cells #[] 5)) rfl (.tmp 49) (.tmp 50) 27 rfl w8.heap.size 5 i0 (.int .u8 0) 1 Tryd.underlying27 hi hz0 hz1 hz2 rfl (.slice (some ⟨w8.heap.size, 0, none⟩) 0 0) 0 [] rfl (World.ownsRow_lit w8 #[] 0 (Nat.le_refl _) (by unfold maxLen; omega) rfl) _ .u8 A0 xa.length c0 (nI xa) rfl sA8 HM1.out.1 HM1.out.2.1 HM3.out ?_
         intro v9 w9 hO9 hg9 hv9
         simp only [Nat.zero_add, List.nil_append] at hO9
         obtain ⟨A9, c9, rfl, hs9⟩ := SlI.of_own hO9
         have hb9 : Below w8.heap.size w8 w9 := ((Below.refl _ w8).alloc (Nat.le_refl _) _).grown hg9 (by simp) (fun k e => by simp [Value.ownBlock] at e; omega)
         have hz9 : w8.heap.size ≤ w9.heap.size := hb9.size
         have sC9 := HC.out.up (HB6.out.trans ((hb8.trans (hb9.mono hz8)).mono hz6)))
      | ((with_reducible refine at_append ?_); refine wpList_append_sl w9 rfl (.tmp 51) (.tmp 52) 27 rfl w8.heap.size 5 i0 (.int .u8 0) 1 Tryd.underlying27 hi hz0 hz1 hz2 rfl (.slice A9 xa.length c9) xa.length _ rfl hO9 _ .u8 A2 xc.length c2 (nI xc) rfl sC9 HM2.out.2.2.1 HM2.out.2.2.2 hz9 ?_
         intro v10 w10 hO10 hg10 hv10
         rw [← List.map_append, show nI xa ++ nI xc = nI (xa ++ xc) by simp [nI]] at hO10
         obtain ⟨A10, c10, rfl, hs10⟩ := SlI.of_own hO10
         have hb10 : Below w8.heap.size w8 w10 := hb9.grown hg10 hz9 (fun k e => (hO9.lt k e).1)))
    have hb10' : Below w6.heap.size w6 w10 := hb8.trans (hb10.mono hz8)
    have hbw := HB6.out.trans (hb10'.mono hz6)
    have hS10 := HS6.out.below hb10'
    have hC10 := HC6.out.below hb10'
    have hzw := hbw.size
    have sl1 : SlI w10 w10.heap.size .u8 A8 (xa.length + xb.length) c8 (nI (xa ++ xb)) := SlI.of_row' (own_same hO8 fun b hb' => hb10.block b (hO8.lt b hb').2)
    have sl2 : SlI w10 w10.heap.size .u8 A10 (xa.length + xc.length) c10 (nI (xa ++ xc)) := SlI.of_row' hO10
    have hgt : w.heap.size ≤ gt := by have := HZT.out; omega
    have hTW : ∀ W, Below w10.heap.size w10 W → Below w.heap.size w W := fun W h => hbw.trans (h.mono hzw)
    have K1 := Lib.hid (fun (W : World) (h : Below w10.heap.size w10 W) => sum_own w.heap.size g v5 (xa ++ xb) W (by have := h.size; omega) hf hk (HT.out W (hTW W h)).1 (HT.out W (hTW W h)).2 (hS10.below h) (by rw [List.length_append]; omega))
    have K2 := Lib.hid (fun (W : World) (h : Below w10.heap.size w10 W) => by
      have k := of_own A8 c8 (xa ++ xb) W (HT.out W (hTW W h)).1 (HT.out W (hTW W h)).2 (by rw [List.length_append]; exact sl1.up h) (fun x hx => by
        rcases List.mem_append.1 hx with hx | hx
        · exact Ha.out x hx
        · exact Hb.out x hx) (by rw [List.length_append]; omega)
      rw [List.length_append] at k
      exact k)
    have K3 := Lib.hid (fun (W : World) (h : Below w10.heap.size w10 W) => sum_own gt gt v6 (xa ++ xc) W (by have := h.size; have := hC10.lt.1; omega) (by omega) (by omega) (HT.out W (hTW W h)).1 (HT.out W (hTW W h)).2 (hC10.below h) (by rw [List.length_append]; omega))
    have K4 := Lib.hid (fun (W : World) (h : Below w10.heap.size w10 W) => by
      have k := of_own A10 c10 (xa ++ xc) W (HT.out W (hTW W h)).1 (HT.out W (hTW W h)).2 (by rw [List.length_append]; exact sl2.up h) (fun x hx => by
        rcases List.mem_append.1 hx with hx | hx
        · exact Ha.out x hx
        · exact Hc.out x hx) (by rw [List.length_append]; omega)
      rw [List.length_append] at k
      exact k)
    have K5 := Lib.hid (fun (W : World) (h : Below w10.heap.size w10 W) => by
      have k := len_own W _ g v5 (xa ++ xb) (hS10.below h)
      rw [List.length_append] at k
      exact k)
    have K6 := Lib.hid (fun (W : World) (h : Below w10.heap.size w10 W) => by
      have k := len_own W _ gt v6 (xa ++ xc) (hC10.below h)
      rw [List.length_append] at k
      exact k)
    have E1 := eql_digest (xa ++ xb)
    have E2 := eql_digest (xa ++ xc)
    generalize Sh.digest (xa ++ xb) = D1 at K1 K2 E1
    generalize Sh.digest (xa ++ xc) = D2 at K3 K4 E2
    have HBW := Lib.hid (And.intro hbw hzw)
    clear hb10' hbw hS10 hC10 sl1 sl2 hTW hb10 hb9 hb8 hb7 hO8 hO10 hO9 hO7 hg7 hg8 hg9 hg10 hv7 hv8 hv9 hv10 hs7 hs8 hs9 hs10 sA6 sA8 sB7 sC9
    refine (K1.out w10 (Below.refl _ _)).mono ?_
    rintro e w11 ⟨rfl, hb11⟩
    go_wp2_with fail
    refine (K2.out w11 hb11).mono ?_
    rintro e w12 ⟨rfl, hb12⟩
    have hb12' := hb11.trans (hb12.mono hb11.size)
    go_wp2_with fail
    refine (K3.out w12 hb12').mono ?_
    rintro e w13 ⟨rfl, hb13⟩
    have hb13' := hb12'.trans (hb13.mono hb12'.size)
    go_wp2_with fail
    refine (K4.out w13 hb13').mono ?_
    rintro e w14 ⟨rfl, hb14⟩
    have hb14' := hb13'.trans (hb14.mono hb13'.size)
    go_wp2_with fail
    refine (K5.out w14 hb14').mono ?_
    rintro e w15 ⟨rfl, rfl⟩
    go_wp2_with fail
    refine (K6.out w14 hb14').mono ?_
    rintro e w15 ⟨rfl, rfl⟩
    go_wp2
    go_ret
    exact ⟨retb (by simp), HBW.out.1.trans (hb14'.mono HBW.out.2)⟩
  · have hno : 1000 < xa.length ∨ 1000 < xb.length ∨ 1000 < xc.length := by omega
    rcases hno with h | h | h
    · go_in
      go_wp2_with fail
      refine HAL.out.mono ?_
      rintro e w1 ⟨rfl, hb1⟩
      go_wp2
      go_ret
      exact ⟨rfl, hb1⟩
    · by_cases h1 : 1000 < xa.length
      · go_in
        go_wp2_with fail
        refine HAL.out.mono ?_
        rintro e w1 ⟨rfl, hb1⟩
        go_wp2
        go_ret
        exact ⟨rfl, hb1⟩
      · go_in
        go_wp2_with fail
        refine HAL.out.mono ?_
        rintro e w1 ⟨rfl, hb1⟩
        go_wp2
        go_ret
        exact ⟨rfl, hb1⟩
    · by_cases h1 : 1000 < xa.length
      · go_in
        go_wp2_with fail
        refine HAL.out.mono ?_
        rintro e w1 ⟨rfl, hb1⟩
        go_wp2
        go_ret
        exact ⟨rfl, hb1⟩
      · by_cases h2 : 1000 < xb.length
        · go_in
          go_wp2_with fail
          refine HAL.out.mono ?_
          rintro e w1 ⟨rfl, hb1⟩
          go_wp2
          go_ret
          exact ⟨rfl, hb1⟩
        · go_in
          go_wp2_with fail
          refine HAL.out.mono ?_
          rintro e w1 ⟨rfl, hb1⟩
          go_wp2
          go_ret
          exact ⟨rfl, hb1⟩
end Go.Proofs.YtjkhkgdijnhdmaaDoor
