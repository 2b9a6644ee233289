/- The law MacKeys. -/
import Derived.Test.YtjkhkgdijnhdmaaDoorMacOf
import Derived.Test.YtjkhkgdijnhdmaaDoorShaAlive
import Derived.Lib.SlBytesConst
namespace Go.Proofs.YtjkhkgdijnhdmaaDoor
open Go.RowKit

def jefe : List Nat := [74, 101, 102, 101]
def msgJ : List Nat := [119, 104, 97, 116, 32, 100, 111, 32, 121, 97, 32, 119, 97, 110, 116, 32, 102, 111, 114, 32, 110, 111, 116, 104, 105, 110, 103, 63]
theorem ex_jefe : textN (mtag (mkey jefe) msgJ) = ⟨#[53, 98, 100, 99, 99, 49, 52, 54, 98, 102, 54, 48, 55, 53, 52, 101, 54, 97, 48, 52, 50, 52, 50, 54, 48, 56, 57, 53, 55, 53, 99, 55, 53, 97, 48, 48, 51, 102, 48, 56, 57, 100, 50, 55, 51, 57, 56, 51, 57, 100, 101, 99, 53, 56, 98, 57, 54, 52, 101, 99, 51, 56, 52, 51]⟩ := by decide +kernel
theorem SlI.constM (w : World) (e : TypeId) (l : List Nat) (n m : Nat) (h : l.length = n) (hm : n ≤ 1000000) : SlI (w.alloc (.cells (arr8 l) e (n, m))) (w.alloc (.cells (arr8 l) e (n, m))).heap.size .u8 (some ⟨w.heap.size, 0, none⟩) n n (nI l) := by
  refine ⟨by rw [nI_len]; exact h, Nat.le_refl _, by unfold maxLen; omega, (fun e => by cases e), fun _ => ⟨_, 0, rfl, by simp, fun i x hx => ?_⟩⟩
  rw [Nat.zero_add, World.cell?_alloc_mark]
  simp only [nI, List.getElem?_map, Option.map_eq_some_iff] at hx
  obtain ⟨y, hy, rfl⟩ := hx
  exact arr8_at _ _ _ hy
set_option maxRecDepth 100000 in
set_option maxHeartbeats 4000000 in
theorem alive5_own (w : World) (hT : Tab w 0 .u32 firstI) (hT2 : Tab w 1 .u32 kI) :
    Calls Tryd.prog 35 #[] w fun e w' => e = .returned (.bool true) ∧ Below w.heap.size w w' := by
  have HT := Lib.hid (fun (W : World) (h : Below w.heap.size w W) => And.intro (hT.up h) (hT2.up h))
  have HX := Lib.hid ex_jefe
  obtain ⟨D, hD⟩ : ∃ D, mtag (mkey jefe) msgJ = D := ⟨_, rfl⟩
  have hDl : D.length = 32 := by rw [← hD]; exact mtag_len _ _
  have hDi : ∀ x ∈ D, x < 256 := by rw [← hD]; exact mtag_in _ _
  rw [hD] at HX
  have HD := Lib.hid hD
  have HTX := Lib.hid (fun (W : World) => text_any (nI D) (by rw [nI_len]; exact hDl) (nI_in hDi) W)
  have hsD := hash_size D hDl
  have hs0 : (arr8 zz32).size = (arr8 D).size := by rw [arr8_size, arr8_size, hDl]; rfl
  have hu := Tryd.underlying35
  clear hT hT2 hD hDi
  go_in
  go_wp2_with fail
  rw [Lib.run_convert_bytes_const w _ _ _ 4 4 Tryd.underlying27 Tryd.underlying5]
  simp only [Result.andThen]
  rw [Oper.upon_value]
  have hb1 : Below w.heap.size w (w.alloc (.cells #[.int .u8 74, .int .u8 101, .int .u8 102, .int .u8 101] 5 (4, 5))) := (Below.refl _ w).alloc (Nat.le_refl _) _
  have s1 : SlI (w.alloc (.cells #[.int .u8 74, .int .u8 101, .int .u8 102, .int .u8 101] 5 (4, 5))) (w.alloc (.cells #[.int .u8 74, .int .u8 101, .int .u8 102, .int .u8 101] 5 (4, 5))).heap.size .u8 (some ⟨w.heap.size, 0, none⟩) 4 4 (nI jefe) := SlI.constM w 5 jefe 4 5 rfl (by omega)
  generalize w.alloc (.cells #[.int .u8 74, .int .u8 101, .int .u8 102, .int .u8 101] 5 (4, 5)) = w1 at hb1 s1 ⊢
  go_wp2_with fail
  rw [Lib.run_convert_bytes_const w1 _ _ _ 28 28 Tryd.underlying27 Tryd.underlying5]
  simp only [Result.andThen]
  rw [Oper.upon_value]
  have hzz1 := hb1.size
  have hb2 : Below w1.heap.size w1 (w1.alloc (.cells #[.int .u8 119, .int .u8 104, .int .u8 97, .int .u8 116, .int .u8 32, .int .u8 100, .int .u8 111, .int .u8 32, .int .u8 121, .int .u8 97, .int .u8 32, .int .u8 119, .int .u8 97, .int .u8 110, .int .u8 116, .int .u8 32, .int .u8 102, .int .u8 111, .int .u8 114, .int .u8 32, .int .u8 110, .int .u8 111, .int .u8 116, .int .u8 104, .int .u8 105, .int .u8 110, .int .u8 103, .int .u8 63] 5 (28, 29))) := (Below.refl _ w1).alloc (Nat.le_refl _) _
  have s2 : SlI (w1.alloc (.cells #[.int .u8 119, .int .u8 104, .int .u8 97, .int .u8 116, .int .u8 32, .int .u8 100, .int .u8 111, .int .u8 32, .int .u8 121, .int .u8 97, .int .u8 32, .int .u8 119, .int .u8 97, .int .u8 110, .int .u8 116, .int .u8 32, .int .u8 102, .int .u8 111, .int .u8 114, .int .u8 32, .int .u8 110, .int .u8 111, .int .u8 116, .int .u8 104, .int .u8 105, .int .u8 110, .int .u8 103, .int .u8 63] 5 (28, 29))) (w1.alloc (.cells #[.int .u8 119, .int .u8 104, .int .u8 97, .int .u8 116, .int .u8 32, .int .u8 100, .int .u8 111, .int .u8 32, .int .u8 121, .int .u8 97, .int .u8 32, .int .u8 119, .int .u8 97, .int .u8 110, .int .u8 116, .int .u8 32, .int .u8 102, .int .u8 111, .int .u8 114, .int .u8 32, .int .u8 110, .int .u8 111, .int .u8 116, .int .u8 104, .int .u8 105, .int .u8 110, .int .u8 103, .int .u8 63] 5 (28, 29))).heap.size .u8 (some ⟨w1.heap.size, 0, none⟩) 28 28 (nI msgJ) := SlI.constM w1 5 msgJ 28 29 rfl (by omega)
  generalize w1.alloc (.cells #[.int .u8 119, .int .u8 104, .int .u8 97, .int .u8 116, .int .u8 32, .int .u8 100, .int .u8 111, .int .u8 32, .int .u8 121, .int .u8 97, .int .u8 32, .int .u8 119, .int .u8 97, .int .u8 110, .int .u8 116, .int .u8 32, .int .u8 102, .int .u8 111, .int .u8 114, .int .u8 32, .int .u8 110, .int .u8 111, .int .u8 116, .int .u8 104, .int .u8 105, .int .u8 110, .int .u8 103, .int .u8 63] 5 (28, 29)) = w2 at hb2 s2 ⊢
  have hb2w := hb1.trans (hb2.mono hzz1)
  have hzz2 := hb2.size
  have ko := macof_own (some ⟨w.heap.size, 0, none⟩) 4 jefe (some ⟨w1.heap.size, 0, none⟩) 28 msgJ w2 (HT.out w2 hb2w).1 (HT.out w2 hb2w).2 (s1.up hb2) (by decide) (by decide) s2 (by decide) (by decide)
  rw [HD.out, show jefe.length = 4 from rfl, show msgJ.length = 28 from rfl] at ko
  have HO := Lib.hid ko
  clear ko s1 s2
  go_wp2_with fail
  refine HO.out.mono ?_
  rintro e w3 ⟨rfl, hb3⟩
  have hzz3 := hb3.size
  obtain ⟨w4, hw4⟩ : ∃ w4, w3.alloc (.cells (arr8 D) 35) = w4 := ⟨_, rfl⟩
  have hb4 : Below w.heap.size w w4 := by rw [← hw4]; exact (hb2w.trans (hb3.mono (by omega))).alloc (by omega) _
  have hO4 : Held w4 w3.heap.size 35 (arr8 D) := by rw [← hw4]; exact Held.new _ _ _
  go_wp2_with (first
    | (refine wpList_store_row rfl 35 (.tmp 1) (.tmp 6) rfl w3.heap.size (arr8 D) rfl rfl 35 (arr8 zz32) (heap_alloc_new w3 _) hsD hs0 (arr8_one _) ?_
       rw [World.setRow_alloc_new, hw4])
    | (refine wpList_load_row rfl 35 (.tmp 1) rfl w3.heap.size rfl 35 (arr8 D) (0, 0) _ hO4 hu rfl hsD ?_)
    | fail)
  refine (HTX.out _).mono ?_
  rintro e w5 ⟨rfl, hb5⟩
  have e1 : (⟨(bytesOf (hexL (nI D))).toArray⟩ : ByteArray) = ⟨#[53, 98, 100, 99, 99, 49, 52, 54, 98, 102, 54, 48, 55, 53, 52, 101, 54, 97, 48, 52, 50, 52, 50, 54, 48, 56, 57, 53, 55, 53, 99, 55, 53, 97, 48, 48, 51, 102, 48, 56, 57, 100, 50, 55, 51, 57, 56, 51, 57, 100, 101, 99, 53, 56, 98, 57, 54, 52, 101, 99, 51, 56, 52, 51]⟩ := HX.out
  rw [e1]
  go_wp2
  go_ret
  exact ⟨retb (by simp), hb4.trans (hb5.mono (hb4.size))⟩
theorem mkey_hash (key : List Nat) (h : 64 < key.length) : mkey (Sh.digest key) = mkey key := by
  unfold mkey
  rw [if_pos h, if_neg (by rw [Sh.digest_len]; omega)]
theorem mkey_zeros (key : List Nat) (j : Nat) (h : key.length + j ≤ 64) : mkey (key ++ List.replicate j 0) = mkey key := by
  have h1 : (key ++ List.replicate j 0).length = key.length + j := by simp
  unfold mkey
  rw [if_neg (by omega), if_neg (by omega)]
  unfold fill64
  rw [h1, List.append_assoc, List.replicate_append_replicate, show j + (64 - (key.length + j)) = 64 - key.length by omega]
set_option maxRecDepth 100000 in
set_option maxHeartbeats 8000000 in
theorem law_keys (A0 : Option Addr) (c0 : Nat) (key : List Nat) (mo : Nat) (A2 : Option Addr) (c2 : Nat) (bs : List Nat) (w : World) (hT : Tab w 0 .u32 firstI) (hT2 : Tab w 1 .u32 kI)
    (h0 : SlI w w.heap.size .u8 A0 key.length c0 (nI key)) (h0i : ∀ x ∈ key, x < 256) (hmo : mo < 256) (h2 : SlI w w.heap.size .u8 A2 bs.length c2 (nI bs)) (h2i : ∀ x ∈ bs, x < 256) :
    Calls Tryd.prog 10 #[.slice A0 key.length c0, .int .u8 (mo : Int), .slice A2 bs.length c2] w fun e w' => e = .returned (.bool true) ∧ Below w.heap.size w w' := by
  have HAL := Lib.hid (alive5_own w hT hT2)
  by_cases hg : 300 < key.length ∨ 500 < bs.length
  · clear hT hT2 h0 h2 h0i h2i
    by_cases h3 : 300 < key.length
    · go_in
      go_wp2_with fail
      refine HAL.out.mono ?_
      rintro e w1 ⟨rfl, hb1⟩
      go_wp2
      go_ret
      exact ⟨rfl, hb1⟩
    · have h4 : 500 < bs.length := by omega
      go_in
      go_wp2_with fail
      refine HAL.out.mono ?_
      rintro e w1 ⟨rfl, hb1⟩
      go_wp2
      go_ret
      exact ⟨rfl, hb1⟩
  · have h3 : key.length ≤ 300 := by omega
    have h4 : bs.length ≤ 500 := by omega
    obtain ⟨i0, hi0, hz0, hz1, hz2⟩ := info_parts infoB
    have HTB := Lib.hid (fun (W : World) (h : Below w.heap.size w W) => And.intro (hT.up h) (hT2.up h))
    have H0 := Lib.hid (fun (W : World) (h : Below w.heap.size w W) => h0.up h)
    have H2 := Lib.hid (fun (W : World) (h : Below w.heap.size w W) => h2.up h)
    have H0I := Lib.hid h0i
    have H2I := Lib.hid h2i
    obtain ⟨D, hD⟩ : ∃ D, mtag (mkey key) bs = D := ⟨_, rfl⟩
    have hDl : D.length = 32 := by rw [← hD]; exact mtag_len _ _
    have hDi : ∀ x ∈ D, x < 256 := by rw [← hD]; exact mtag_in _ _
    have hE := eql_two D D hDl hDl hDi hDi
    rw [show decide (D = D) = true by simp] at hE
    have KOF : Hid (∀ W, Below w.heap.size w W → Calls Tryd.prog 31 #[.slice A0 key.length c0, .slice A2 bs.length c2] W fun e W' => e = .returned (.agg (arr8 D)) ∧ Below W.heap.size W W') := Lib.hid (fun W h => by
      have k := macof_own A0 c0 key A2 c2 bs W (hT.up h) (hT2.up h) (h0.up h) h0i (by omega) (h2.up h) h2i (by omega)
      rwa [hD] at k)
    have HD := Lib.hid hD
    clear hg hT hT2 h0 h2 h0i h2i hD hDi
    by_cases hl : 64 < key.length
    · have HMK := Lib.hid (mkey_hash key hl)
      obtain ⟨E, hEE⟩ : ∃ E, Sh.digest key = E := ⟨_, rfl⟩
      have hEl : E.length = 32 := by rw [← hEE]; exact Sh.digest_len _
      have hEi : ∀ x ∈ E, x < 256 := by rw [← hEE]; exact Sh.digest_in _
      rw [hEE] at HMK
      have HEI := Lib.hid hEi
      have HEE := Lib.hid hEE
      have hsE := hash_size E hEl
      have hs0 : (arr8 zz32).size = (arr8 E).size := by rw [arr8_size, arr8_size, hEl]; rfl
      clear hEE hEi
      go_in
      go_wp2_with fail
      refine HAL.out.mono ?_
      rintro e w1 ⟨rfl, hb1⟩
      have ks := of_own A0 c0 key w1 (HTB.out w1 hb1).1 (HTB.out w1 hb1).2 (H0.out w1 hb1) H0I.out (by omega)
      rw [HEE.out] at ks
      have HS := Lib.hid ks
      clear ks
      go_wp2_with fail
      refine HS.out.mono ?_
      rintro e w2 ⟨rfl, hb2⟩
      have hzz1 := hb1.size
      have hzz2 := hb2.size
      obtain ⟨w3, hw3⟩ : ∃ w3, w2.alloc (.cells (arr8 E) 35) = w3 := ⟨_, rfl⟩
      have hb3 : Below w.heap.size w w3 := by rw [← hw3]; exact (hb1.trans (hb2.mono hzz1)).alloc (by omega) _
      have hX3 : Held w3 w2.heap.size 35 (arr8 E) := by rw [← hw3]; exact Held.new _ _ _
      have hzz3 : w3.heap.size = w2.heap.size + 1 := by rw [← hw3]; simp
      go_wp2_with (first
        | (refine wpList_store_row rfl 35 (.tmp 8) (.tmp 31) rfl w2.heap.size (arr8 E) rfl rfl 35 (arr8 zz32) (heap_alloc_new w2 _) hsE hs0 (arr8_one _) ?_
           rw [World.setRow_alloc_new, hw3])
        | fail)
      go_loopw [9, 10] (fun u9 u10 wx => ∃ (k : Nat) (A : Option Addr) (c : Nat), k ≤ 32 ∧ u9 = .slice A k c ∧ u10 = .int .i64 k ∧ wx.ownsRow w3.heap.size 5 1 (.slice A k c) k ((nI (E.take k)).map (Value.int .u8)) ∧ Below w3.heap.size w3 wx) (fun _ i _ => 32 - (intOf i).toNat)
      case atStart => exact ⟨0, none, 0, by omega, rfl, rfl, World.ownsRow_nil _ _ _ _, Below.refl _ _⟩
      case round =>
        obtain ⟨k, A, c, hk, rfl, rfl, h9, hbr⟩ := hrel
        have hzr := hbr.size
        by_cases hlt : k < 32
        · obtain ⟨X, hX⟩ : ∃ X, E[k]? = some X := ⟨_, List.getElem?_eq_getElem (by omega)⟩
          have hc : wr.cell? ⟨w2.heap.size, k, none⟩ = some (.int .u8 (X : Int)) := (hbr.cell (p := ⟨w2.heap.size, k, none⟩) hX3.lt).trans ((hX3.cell k).trans (arr8_at _ _ _ hX))
          have PD := Lib.hid (show nI (E.take k) ++ [(X : Int)] = nI (E.take (k + 1)) by rw [List.take_add_one, hX]; simp [nI])
          have L9 := Lib.hid h9.lt
          have h9a := own_same (w' := wr.alloc (.cells #[.int .u8 (X : Int)] 5)) h9 (fun b e => Lib.alloc_old wr _ b (L9.out b e).2)
          have sX : SlI (wr.alloc (.cells #[.int .u8 (X : Int)] 5)) (wr.alloc (.cells #[.int .u8 (X : Int)] 5)).heap.size .u8 (some ⟨wr.heap.size, 0, none⟩) 1 1 [(X : Int)] := SlI.lit_at rfl rfl rfl (by omega)
          have HM := Lib.hid (show k + 1 ≤ maxLen ∧ (k + 1) * 1 ≤ 140737488355328 ∧ w3.heap.size ≤ (wr.alloc (.cells #[.int .u8 (X : Int)] 5)).heap.size by unfold maxLen; simp; omega)
          clear hX
          go_wp2_with (first
            | ((with_reducible refine at_append ?_); refine wpList_append_sl (wr.alloc (.cells #[.int .u8 (X : Int)] 5)) rfl (.tmp 36) (.tmp 40) 27 rfl w3.heap.size 5 i0 (.int .u8 0) 1 Tryd.underlying27 hi0 hz0 hz1 hz2 rfl (.slice A k c) k _ rfl h9a _ .u8 (some ⟨wr.heap.size, 0, none⟩) 1 1 [(X : Int)] rfl sX HM.out.1 HM.out.2.1 HM.out.2.2 ?_
               intro v8 w8 hO8 hg8 hv8
               rw [← List.map_append, PD.out] at hO8
               obtain ⟨A8, c8, rfl, hs8⟩ := SlI.of_own hO8)
            | fail)
          have hb8 : Below w3.heap.size w3 w8 := (hbr.alloc hzr _).grown hg8 (by simp; omega) (fun b e => (L9.out b e).1)
          go_roundw
          case rel => exact ⟨k + 1, A8, c8, by omega, rfl, by go_num, hO8, hb8⟩
          case measure => simp [intOf]; omega
        · obtain rfl : k = 32 := by omega
          rw [List.take_of_length_le (by omega)] at h9
          obtain ⟨_, _, e9, s9⟩ := SlI.of_own h9
          injection e9 with e1 e2 e3
          subst e1 e3
          have hbw := hb3.trans (hbr.mono (by omega))
          have KO2 : Hid (∀ W, Below wr.heap.size wr W → Calls Tryd.prog 31 #[.slice A 32 c, .slice A2 bs.length c2] W fun e W' => e = .returned (.agg (arr8 D)) ∧ Below W.heap.size W W') := Lib.hid (fun W h => by
            have hw := hbw.trans (h.mono (by have := hbw.size; omega))
            have s9' := s9.up h
            rw [← hEl] at s9'
            have k := macof_own A c E A2 c2 bs W (HTB.out W hw).1 (HTB.out W hw).2 s9' HEI.out (by omega) (H2.out W hw) H2I.out (by omega)
            rwa [HMK.out, HD.out, hEl] at k)
          have HBW := Lib.hid hbw
          clear h9 s9 hbr hb3 hX3 hw3 hbw
          go_wp2_with fail
          refine (KOF.out wr HBW.out).mono ?_
          rintro e w8 ⟨rfl, hb8⟩
          go_wp2_with fail
          refine (KO2.out w8 hb8).mono ?_
          rintro e w9 ⟨rfl, hb9⟩
          go_wp2
          go_ret
          exact ⟨retb (by simp), HBW.out.trans ((hb8.trans (hb9.mono hb8.size)).mono HBW.out.size)⟩
    · go_in
      go_wp2_with fail
      refine HAL.out.mono ?_
      rintro e w1 ⟨rfl, hb1⟩
      have hzz1 := hb1.size
      have sX := (H0.out w1 hb1).alloc (.cells #[] 5)
      have HM1 := Lib.hid (show 0 + key.length ≤ maxLen ∧ (0 + key.length) * 1 ≤ 140737488355328 ∧ w1.heap.size ≤ (w1.alloc (.cells #[] 5)).heap.size by unfold maxLen; simp; omega)
      go_wp2_with (first
        | ((with_reducible refine at_append ?_); refine wpList_append_sl (w1.alloc (.cells #[] 5)) rfl (.tmp 52) (.tmp 53) 27 rfl w1.heap.size 5 i0 (.int .u8 0) 1 Tryd.underlying27 hi0 hz0 hz1 hz2 rfl (.slice (some ⟨w1.heap.size, 0, none⟩) 0 0) 0 [] rfl (World.ownsRow_lit w1 #[] 0 (Nat.le_refl _) (by unfold maxLen; omega) rfl) _ .u8 A0 key.length c0 (nI key) rfl sX HM1.out.1 HM1.out.2.1 HM1.out.2.2 ?_
           intro v3 w3 hO3 hg3 hv3
           simp only [Nat.zero_add, List.nil_append] at hO3
           obtain ⟨A3, c3, rfl, hs3⟩ := SlI.of_own hO3)
        | fail)
      have hb3 : Below w1.heap.size w1 w3 := ((Below.refl _ w1).alloc (Nat.le_refl _) _).grown hg3 (by simp) (fun k e => by simp [Value.ownBlock] at e; omega)
      clear sX hs3 hg3 hv3
      go_loopw [11, 12] (fun u11 u12 wx => ∃ (k : Nat) (A : Option Addr) (c : Nat), k ≤ mo ∧ key.length + k ≤ 64 ∧ u11 = .slice A (key.length + k) c ∧ u12 = .int .i64 k ∧ wx.ownsRow w1.heap.size 5 1 (.slice A (key.length + k) c) (key.length + k) ((nI (key ++ List.replicate k 0)).map (Value.int .u8)) ∧ Below w1.heap.size w1 wx) (fun _ i _ => 256 - (intOf i).toNat)
      case atStart => exact ⟨0, A3, c3, by omega, by omega, rfl, rfl, by simpa using hO3, hb3⟩
      case round =>
        clear hO3 hb3
        obtain ⟨k, A, c, hk, hk2, rfl, rfl, h9, hbr⟩ := hrel
        have hzr := hbr.size
        by_cases hlt : k < mo ∧ key.length + k < 64
        · obtain ⟨hlt1, hlt2⟩ := hlt
          have L9 := Lib.hid h9.lt
          have h9a := own_same (w' := wr.alloc (.cells #[.int .u8 0] 5)) h9 (fun b e => Lib.alloc_old wr _ b (L9.out b e).2)
          have s0 : SlI (wr.alloc (.cells #[.int .u8 0] 5)) (wr.alloc (.cells #[.int .u8 0] 5)).heap.size .u8 (some ⟨wr.heap.size, 0, none⟩) 1 1 [0] := SlI.lit_at rfl rfl rfl (by omega)
          have HM := Lib.hid (show (key.length + k) + 1 ≤ maxLen ∧ ((key.length + k) + 1) * 1 ≤ 140737488355328 ∧ w1.heap.size ≤ (wr.alloc (.cells #[.int .u8 0] 5)).heap.size by unfold maxLen; simp; omega)
          have PD := Lib.hid (show nI (key ++ List.replicate k 0) ++ [0] = nI (key ++ List.replicate (k + 1) 0) by rw [List.replicate_succ']; simp [nI])
          go_wp2_with (first
            | ((with_reducible refine at_append ?_); refine wpList_append_sl (wr.alloc (.cells #[.int .u8 0] 5)) rfl (.tmp 66) (.tmp 67) 27 rfl w1.heap.size 5 i0 (.int .u8 0) 1 Tryd.underlying27 hi0 hz0 hz1 hz2 rfl (.slice A (key.length + k) c) (key.length + k) _ rfl h9a _ .u8 (some ⟨wr.heap.size, 0, none⟩) 1 1 [0] rfl s0 HM.out.1 HM.out.2.1 HM.out.2.2 ?_
               intro v8 w8 hO8 hg8 hv8
               rw [← List.map_append, PD.out] at hO8
               obtain ⟨A8, c8, rfl, hs8⟩ := SlI.of_own hO8)
            | fail)
          have hb8 : Below w1.heap.size w1 w8 := (hbr.alloc hzr _).grown hg8 (by simp; omega) (fun b e => (L9.out b e).1)
          go_roundw
          case rel => exact ⟨k + 1, A8, c8, by omega, by omega, rfl, by go_num, hO8, hb8⟩
          case measure => simp [intOf]; omega
        · obtain ⟨_, _, e9, s9⟩ := SlI.of_own h9
          injection e9 with e1 e2 e3
          subst e1 e3
          have hbw := hb1.trans (hbr.mono (by omega))
          have hkl : (key ++ List.replicate k 0).length = key.length + k := by simp
          have KO2 : Hid (∀ W, Below wr.heap.size wr W → Calls Tryd.prog 31 #[.slice A (key.length + k) c, .slice A2 bs.length c2] W fun e W' => e = .returned (.agg (arr8 D)) ∧ Below W.heap.size W W') := Lib.hid (fun W h => by
            have hw := hbw.trans (h.mono (by have := hbw.size; omega))
            have s9' := s9.up h
            rw [← hkl] at s9'
            have k' := macof_own A c (key ++ List.replicate k 0) A2 c2 bs W (HTB.out W hw).1 (HTB.out W hw).2 s9' (fun x hx => (List.mem_append.1 hx).elim (H0I.out x) (fun h => by have := (List.mem_replicate.1 h).2; omega)) (by omega) (H2.out W hw) H2I.out (by omega)
            rwa [mkey_zeros key k hk2, HD.out, hkl] at k')
          have HBW := Lib.hid hbw
          clear h9 s9 hbr hbw hkl
          by_cases hlt1 : k < mo
          · have hlt2 : ¬ (key.length + k < 64) := fun h => hlt ⟨hlt1, h⟩
            go_wp2_with fail
            refine (KOF.out wr HBW.out).mono ?_
            rintro e w8 ⟨rfl, hb8⟩
            go_wp2_with fail
            refine (KO2.out w8 hb8).mono ?_
            rintro e w9 ⟨rfl, hb9⟩
            go_wp2
            go_ret
            exact ⟨retb (by simp), HBW.out.trans ((hb8.trans (hb9.mono hb8.size)).mono HBW.out.size)⟩
          · go_wp2_with fail
            refine (KOF.out wr HBW.out).mono ?_
            rintro e w8 ⟨rfl, hb8⟩
            go_wp2_with fail
            refine (KO2.out w8 hb8).mono ?_
            rintro e w9 ⟨rfl, hb9⟩
            go_wp2
            go_ret
            exact ⟨retb (by simp), HBW.out.trans ((hb8.trans (hb9.mono hb8.size)).mono HBW.out.size)⟩
end Go.Proofs.YtjkhkgdijnhdmaaDoor
