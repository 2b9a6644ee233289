/- The law ShaPlays. -/
import Derived.Test.YtjkhkgdijnhdmaaDoorShaOps
import Derived.Lib.SlBytesConst
import Derived.BigRegion
namespace Go.Proofs.YtjkhkgdijnhdmaaDoor
open Go.RowKit

/-- The copy that was taken, and what it had taken; it lies apart. -/
def OldAt (B : Nat) (wr : World) (g : Nat) (v av u4 u6 : Value) (wl : List Nat) : Prop :=
  (u4 = .pointer none ∧ u6 = .slice none 0 0) ∨
  ∃ (z1 z2 go : Nat) (vo : Value) (Aw : Option Addr) (cw : Nat), B ≤ z1 ∧ u4 = .pointer (some ⟨go, 0, none⟩) ∧ u6 = .slice Aw wl.length cw ∧ ShaAt wr z1 go vo wl ∧
    wr.ownsRow z1 5 1 (.slice Aw wl.length cw) wl.length ((nI wl).map (Value.int .u8)) ∧ z1 ≤ go ∧ go < z2 ∧ (∀ b, vo.ownBlock = some b → b < z2) ∧
    (∀ b, (Value.slice Aw wl.length cw).ownBlock = some b → b < z2 ∧ b ≠ go ∧ vo.ownBlock ≠ some b) ∧ z2 ≤ wr.heap.size ∧ g < z1 ∧
    (∀ b, v.ownBlock = some b → b < z1 ∨ z2 ≤ b) ∧ (∀ b, av.ownBlock = some b → b < z1 ∨ z2 ≤ b)
theorem OldAt.step {B : Nat} {wr w' : World} {g : Nat} {v av v' av' u4 u6 : Value} {wl : List Nat} (h : OldAt B wr g v av u4 u6 wl) (hz : wr.heap.size ≤ w'.heap.size)
    (hk : ∀ k, k < wr.heap.size → k ≠ g → some k ≠ v.ownBlock → some k ≠ av.ownBlock → w'.heap[k]? = wr.heap[k]?)
    (hv : ∀ b, v'.ownBlock = some b → v.ownBlock = some b ∨ wr.heap.size ≤ b) (hav : ∀ b, av'.ownBlock = some b → av.ownBlock = some b ∨ wr.heap.size ≤ b) : OldAt B w' g v' av' u4 u6 wl := by
  rcases h with h | ⟨z1, z2, go, vo, Aw, cw, hB, h4, h6, hS, hR, hgo1, hgo2, hvo, hAw, hz2, hg, hv1, hav1⟩
  · exact .inl h
  · have key : ∀ k, z1 ≤ k → k < z2 → w'.heap[k]? = wr.heap[k]? := fun k h1 h2 => hk k (by omega) (by omega) (fun e => by have := hv1 k e.symm; omega) (fun e => by have := hav1 k e.symm; omega)
    exact .inr ⟨z1, z2, go, vo, Aw, cw, hB, h4, h6, hS.keep (key go hgo1 hgo2) (fun b e => key b (hS.lt.2 b e).1 (hvo b e)), own_same hR (fun b e => key b (hR.lt b e).1 (hAw b e).1), hgo1, hgo2, hvo, hAw, by omega, hg,
      fun b e => by rcases hv b e with h | h; exact hv1 b h; exact .inr (by omega), fun b e => by rcases hav b e with h | h; exact hav1 b h; exact .inr (by omega)⟩
theorem SlI.constB (w : World) (e : TypeId) (l : List Nat) (n m : Nat) (h : l.length = n) (hm : n ≤ 1000000) : SlI (w.alloc (.cells (arr8 l) e (n, m))) (w.alloc (.cells (arr8 l) e (n, m))).heap.size .u8 (some ⟨w.heap.size, 0, none⟩) n n (nI l) := by
  refine ⟨by rw [nI_len]; exact h, Nat.le_refl _, by unfold maxLen; omega, (fun e => by cases e), fun _ => ⟨_, 0, rfl, by simp, fun i x hx => ?_⟩⟩
  rw [Nat.zero_add, World.cell?_alloc_mark]
  simp only [nI, List.getElem?_map, Option.map_eq_some_iff] at hx
  obtain ⟨y, hy, rfl⟩ := hx
  exact arr8_at _ _ _ hy
set_option maxRecDepth 100000 in
set_option maxHeartbeats 8000000 in
theorem law_plays (A : Option Addr) (n c : Nat) (K : Nat → Int) (a : Nat → Option Addr) (cs : Nat → Nat) (xs : Nat → List Nat) (w : World) (hT : Tab w 0 .u32 firstI) (hT2 : Tab w 1 .u32 kI)
    (h : OpsI w w.heap.size A n c K a cs xs) :
    Calls Tryd.prog 3 #[.slice A n c] w fun e w' => e = .returned (.bool true) ∧ Below w.heap.size w w' := by
  have HG := Lib.hid (great_any A n c K a cs xs w h)
  have HT := Lib.hid (fun (W : World) (h : Below w.heap.size w W) => And.intro (hT.up h) (hT2.up h))
  have hf := hT.lt (by decide)
  have hk := hT2.lt (by decide)
  clear hT hT2
  by_cases hgr : 60 < n ∨ 4000 < totB xs n
  · have HG2 := Lib.hid ((HG.out).mono (R' := fun e w' => e = .returned (.bool true) ∧ w' = w) fun e w' h => by rw [decide_eq_true hgr] at h; exact h)
    go_in
    go_wp2_with fail
    refine (HG2.out).mono ?_
    rintro e w1 ⟨rfl, rfl⟩
    go_wp2
    go_ret
    exact ⟨rfl, Below.refl _ _⟩
  · have HG2 := Lib.hid ((HG.out).mono (R' := fun e w' => e = .returned (.bool false) ∧ w = w') fun e w' h => by rw [decide_eq_false hgr] at h; exact ⟨h.1, h.2.symm⟩)
    have hn60 : n ≤ 60 := by omega
    have ht4 : totB xs n ≤ 4000 := by omega
    have HO := Lib.hid h
    obtain ⟨i0, hi0, hz0, hz1, hz2⟩ := info_parts infoB
    have hgl0 : 0 < n → ∃ gl off, A = some ⟨gl, off, none⟩ ∧ gl < w.heap.size := fun hn => by obtain ⟨gl, off, e, hgl, _⟩ := h.row hn; exact ⟨gl, off, e, hgl⟩
    clear h HG hgr
    go_in
    go_wp2_with fail
    refine (HG2.out).mono ?_
    rintro e w1 ⟨rfl, rfl⟩
    go_wp2
    obtain ⟨w2, hw2⟩ : ∃ w2, w.alloc (.cells (shC st0 (.slice none 0 0) 0 false) 30) = w2 := ⟨_, rfl⟩
    have hb2 : Below w.heap.size w w2 := by rw [← hw2]; exact (Below.refl _ w).alloc (Nat.le_refl _) _
    have hS2 : Held w2 w.heap.size 30 (shC st0 (.slice none 0 0) 0 false) := by rw [← hw2]; exact Held.new _ _ _
    have hz2' : w2.heap.size = w.heap.size + 1 := by rw [← hw2]; simp
    rw [show w.alloc (.cells #[Value.int .u32 0, Value.int .u32 0, Value.int .u32 0, Value.int .u32 0, Value.int .u32 0, Value.int .u32 0, Value.int .u32 0, Value.int .u32 0, Value.slice none 0 0, Value.int .u64 0, Value.bool false] 30) = w2 from hw2]
    clear hw2
    obtain ⟨g, hg⟩ : ∃ g, g = w.heap.size := ⟨_, rfl⟩
    have hSA : ShaAt w2 w.heap.size g (.slice none 0 0) [] := by rw [hg]; exact ShaAt.fresh hS2 (Nat.le_refl _)
    clear hS2
    have hgB : w.heap.size ≤ g := by omega
    rw [show Value.pointer (some ⟨w.heap.size, 0, none⟩) = Value.pointer (some ⟨g, 0, none⟩) by rw [hg]]
    clear hg
    go_loopw [4, 5, 6, 16] (fun u4 u5 u6 u16 wr => ∃ (i : Nat) (all wl : List Nat) (Aa : Option Addr) (ca : Nat) (v : Value), i ≤ n ∧ all.length ≤ totB xs i ∧ u16 = .int .i64 i ∧ u5 = .slice Aa all.length ca ∧ wl.length ≤ 4000 ∧ Below w.heap.size w wr ∧ ShaAt wr w.heap.size g v all ∧
        wr.ownsRow w.heap.size 5 1 (.slice Aa all.length ca) all.length ((nI all).map (Value.int .u8)) ∧ (∀ b, (Value.slice Aa all.length ca).ownBlock = some b → b ≠ g ∧ some b ≠ v.ownBlock) ∧ OldAt w.heap.size wr g v (.slice Aa all.length ca) u4 u6 wl) (fun _ _ _ i _ => n - (intOf i).toNat)
    case atStart => exact ⟨0, [], [], none, 0, .slice none 0 0, by omega, by simp, rfl, rfl, by simp, hb2, hSA, World.ownsRow_nil _ _ _ _, fun b e => by simp [Value.ownBlock] at e, .inl ⟨rfl, rfl⟩⟩
    case round =>
      clear hb2 hSA hz2' HG2
      obtain ⟨i, all, wl, Aa, ca, v, hi, hal, rfl, rfl, hwl, hbw, hS, hRow, hsep, hOld⟩ := hrel
      by_cases hlt : i < n
      · obtain ⟨gl, off, rfl, hgl⟩ := hgl0 (by omega)
        obtain ⟨k0, k1⟩ : w.cell? ⟨gl, off + i * 2, none⟩ = some (.int .i64 (K i)) ∧ w.cell? ⟨gl, off + i * 2 + 1, none⟩ = some (.slice (a i) (xs i).length (cs i)) := by
          obtain ⟨g', off', e, _, hc⟩ := HO.out.row (by omega)
          injection e with e; injection e with e1 e2; subst e1 e2
          exact hc i hlt
        have hsl := HO.out.sl i hlt
        have HX := Lib.hid (HO.out.lt i hlt)
        have hti : totB xs (i + 1) = totB xs i + (xs i).length := rfl
        have htm := totB_mono xs (show i + 1 ≤ n from hlt)
        have HTI := Lib.hid hti
        generalize K i = k at k0
        generalize a i = Ai at k1 hsl
        generalize cs i = Ci at k1 hsl
        generalize xs i = X at k1 hsl HX hti HTI
        have hxl : X.length ≤ 4000 := by omega
        have hlen : all.length + X.length ≤ 4000 := by omega
        have hz := hbw.size
        have hl := hS.lt
        have hlR := hRow.lt
        have q0 := (hbw.cell (p := ⟨gl, off + i * 2, none⟩) hgl).trans k0
        have q1 := (hbw.cell (p := ⟨gl, off + i * 2 + 1, none⟩) hgl).trans k1
        have hgl' : gl < wr.heap.size := by omega
        have HM1 := Lib.hid (show 0 + X.length ≤ maxLen ∧ (0 + X.length) * 1 ≤ 140737488355328 ∧ wr.heap.size ≤ (wr.alloc (.cells #[] 5)).heap.size by unfold maxLen; simp; omega)
        have sX := (hsl.up hbw).alloc (.cells #[] 5)
        have hm60 : totB xs i ≤ 4000 := by omega
        have HTM := Lib.hid htm
        have HAL := Lib.hid hal
        clear hti htm hal
        obtain ⟨ti1, hti1⟩ : ∃ t, totB xs (i + 1) = t := ⟨_, rfl⟩
        rw [hti1] at HTI HTM
        have HT1 := Lib.hid hti1
        clear hti1
        generalize totB xs i = ti at HTI HAL hm60
        obtain ⟨_, _, _, _, _, _, _, hab⟩ := id hS
        have HAB := Lib.hid hab
        clear hab
        rcases (show k = 0 ∨ k = 1 ∨ k = 2 ∨ (k ≠ 0 ∧ k ≠ 1 ∧ k ≠ 2) by omega) with rfl | rfl | rfl | ⟨hk0, hk1, hk2⟩
        · go_wp2_with (first
            | ((with_reducible refine at_append ?_); refine wpList_append_sl (wr.alloc (.cells #[] 5)) rfl (.tmp 19) (.tmp 24) 27 rfl wr.heap.size 5 i0 (.int .u8 0) 1 Tryd.underlying27 hi0 hz0 hz1 hz2 rfl (.slice (some ⟨wr.heap.size, 0, none⟩) 0 0) 0 [] rfl (World.ownsRow_lit wr #[] 0 (Nat.le_refl _) (by unfold maxLen; omega) rfl) _ .u8 Ai X.length Ci (nI X) rfl sX HM1.out.1 HM1.out.2.1 HM1.out.2.2 ?_
               intro v7 w7 hO7 hg7 hv7
               simp only [Nat.zero_add, List.nil_append] at hO7
               obtain ⟨A7, c7, rfl, hs7⟩ := SlI.of_own hO7
               have hb7 : Below wr.heap.size wr w7 := ((Below.refl _ wr).alloc (Nat.le_refl _) _).grown hg7 (by simp) (fun k e => by simp [Value.ownBlock] at e; omega)
               have hz7 : wr.heap.size ≤ w7.heap.size := hb7.size
               have hb7w := hbw.trans (hb7.mono hz)
               have q7 := (hb7w.cell (p := ⟨gl, off + i * 2, none⟩) hgl).trans k0)
            | fail)
          have hS7 := hS.below hb7
          have hR7 := own_up hRow hb7
          have hO7l := hO7.lt
          have h7n : 0 < X.length → ∀ a, A7 = some a → a.block ≠ g := fun hn a ha => by
            have := hO7l a.block (by rw [ha]; rfl)
            omega
          refine ((callsIn_wide (n := 6)).1 (write_in w.heap.size g v all X A7 c7 w7 (by omega) hf hk (HT.out w7 hb7w).1 (HT.out w7 hb7w).2 hS7 hs7 h7n HX.out (by omega))).mono ?_
          rintro e w8 ⟨⟨u8, rfl⟩, v8, hS8, hK8, hv8⟩
          have hb8 : Below w.heap.size w w8 := hb7w.trans (hK8.below (by omega) hgB (fun k e => (hl.2 k e).1))
          have hz8 := hK8.size
          have hl8 := hS8.lt
          have hR8 := own_same hR7 (fun b e => hK8.block b (by have := (hlR b e).2; omega) (hsep b e).1 (hsep b e).2)
          have hO8 := own_same hO7 (fun b e => hK8.block b (hO7l b e).2 (by have := (hO7l b e).1; omega) (fun e' => by have := (hO7l b e).1; have := (hl.2 b e'.symm).2; omega))
          have sX8 := hsl.up hb8
          have q8 := (hb8.cell (p := ⟨gl, off + i * 2 + 1, none⟩) hgl).trans k1
          have HM8 := Lib.hid (show all.length + X.length ≤ maxLen ∧ (all.length + X.length) * 1 ≤ 140737488355328 ∧ w.heap.size ≤ w8.heap.size by unfold maxLen; omega)
          clear hS7 hR7 hO7 hs7 hg7 hv7
          go_wp2_with (first
            | ((with_reducible refine at_append ?_); refine wpList_append_sl w8 rfl (.tmp 36) (.tmp 41) 27 rfl w.heap.size 5 i0 (.int .u8 0) 1 Tryd.underlying27 hi0 hz0 hz1 hz2 rfl (.slice Aa all.length ca) all.length _ rfl hR8 _ .u8 Ai X.length Ci (nI X) rfl sX8 HM8.out.1 HM8.out.2.1 HM8.out.2.2 ?_
               intro v9 w9 hO9 hg9 hv9
               rw [← List.map_append, show nI all ++ nI X = nI (all ++ X) by simp [nI]] at hO9
               obtain ⟨A9, c9, rfl, hs9⟩ := SlI.of_own hO9
               have hb9 : Below w.heap.size w w9 := hb8.grown hg9 HM8.out.2.2 (fun k e => (hlR k e).1))
            | fail)
          have hz9 := hg9.size
          have hS9 : ShaAt w9 w.heap.size g v8 (all ++ X) := hS8.keep (hg9.block g hl8.1 (fun e => (hsep g e.symm).1 rfl)) (fun b e => hg9.block b (hl8.2 b e).2 (fun e' => by have := (hlR b e'.symm).2; have := hv8 b e; omega))
          have hR9n : ∀ b, (Value.slice A9 (all.length + X.length) c9).ownBlock = some b → (Value.slice Aa all.length ca).ownBlock = some b ∨ b = w8.heap.size := fun b e => by
            rcases hv9 with h | h
            · exact .inl (h.symm.trans e)
            · exact .inr (by rw [h] at e; exact (Option.some.inj e).symm)
          have hO9b := own_same hO8 (fun b e => hg9.block b (by have := (hO7l b e).2; omega) (fun e' => by have := (hO7l b e).1; have := (hlR b e'.symm).2; omega))
          have hl9 := hO9.lt
          have HX9 := Lib.hid HX.out
          clear hS8 hR8 hO8 hs9 sX8
          go_loopw [45] (fun u45 wx => ∃ (m : Nat) (Y : List Nat), m ≤ X.length ∧ u45 = .int .i64 m ∧ Y.length = X.length ∧ (∀ y ∈ Y, y < 256) ∧ wx.ownsRow wr.heap.size 5 1 (.slice A7 X.length c7) X.length ((nI Y).map (Value.int .u8)) ∧ w9.grownBy wx (Value.slice A7 X.length c7).ownBlock) (fun i _ => X.length - (intOf i).toNat)
          case atStart => exact ⟨0, X, by omega, rfl, rfl, HX.out, hO9b, World.grownBy.refl _ _⟩
          case round =>
            clear hO9b
            obtain ⟨m, Y, hm, rfl, hYl, hY, hOY, hgx⟩ := hrel
            by_cases hlt2 : m < X.length
            · obtain ⟨gb, cb, e7, hgb1, hgb2, hcb1, hcb2⟩ := own_pos hOY (by omega)
              injection e7 with e7a e7b e7c
              subst e7a e7c
              obtain ⟨y, hy1, hy2, hy3⟩ := own_at hOY (i := m) (by rw [nI_len]; omega)
              obtain ⟨yn, rfl, hyn⟩ : ∃ yn : Nat, y = (yn : Int) ∧ yn ∈ Y := by
                simp only [nI, List.getElem?_map, Option.map_eq_some_iff] at hy1
                obtain ⟨z, hz, rfl⟩ := hy1
                exact ⟨z, rfl, List.mem_of_getElem? hz⟩
              have hy256 := hY yn hyn
              have HE := Lib.hid (show ((yn : Int) + 1) % 256 = (((yn + 1) % 256 : Nat) : Int) by omega)
              have HYY := Lib.hid hY
              clear hY hyn hy1
              go_wp2_with (rw [HE.out])
              have h1 := own_set hOY m (((yn + 1) % 256 : Nat) : Int)
              rw [show (nI Y).set m (((yn + 1) % 256 : Nat) : Int) = nI (Y.set m ((yn + 1) % 256)) by unfold nI; rw [List.map_set]] at h1
              refine ⟨⟨m + 1, Y.set m ((yn + 1) % 256), by omega, by go_num, by rw [List.length_set]; exact hYl, fun y hy => ?_, h1, (show w9.grownBy _ (some gb) from grownBy_set (g := gb) hgx (p := ⟨gb, m, none⟩) rfl _)⟩, by simp [intOf]; omega⟩
              rcases List.mem_or_eq_of_mem_set hy with h | h
              · exact HYY.out y h
              · omega
            · obtain rfl : m = X.length := by omega
              have hzx := hgx.size
              have hbx : Below w.heap.size w wr := hb9.grown hgx (by omega) (fun k e => by have := (hO7l k e).1; omega)
              have hSx : ShaAt wr w.heap.size g v8 (all ++ X) := hS9.keep (hgx.block g (by omega) (fun e => by have := (hO7l g e.symm).1; omega)) (fun b e => hgx.block b (by have := (hl8.2 b e).2; omega) (fun e' => by have := (hO7l b e'.symm).2; have := hv8 b e; omega))
              have hRx := own_same hO9 (fun b e => hgx.block b (hl9 b e).2 (fun e' => by
                rcases hR9n b e with h | h
                · have := (hlR b h).2; have := (hO7l b e'.symm).1; omega
                · have := (hO7l b e'.symm).2; omega))
              have hOx : OldAt w.heap.size wr g v8 (.slice A9 (all.length + X.length) c9) u4 u6 wl := hOld.step (by omega)
                (fun k h1 h2 h3 h4 => ((hgx.block k (by omega) (fun e => by have := (hO7l k e.symm).1; omega)).trans (hg9.block k (by omega) h4)).trans ((hK8.block k (by omega) h2 h3).trans (hb7.block k h1)))
                (fun b e => .inr (by have := hv8 b e; omega)) (fun b e => by
                  rcases hR9n b e with h | h
                  · exact .inl h
                  · exact .inr (by omega))
              have hsx : ∀ b, (Value.slice A9 (all.length + X.length) c9).ownBlock = some b → b ≠ g ∧ some b ≠ v8.ownBlock := fun b e => by
                rcases hR9n b e with h | h
                · exact ⟨(hsep b h).1, fun e' => by have := (hlR b h).2; have := hv8 b e'.symm; omega⟩
                · exact ⟨by omega, fun e' => by have := (hl8.2 b e'.symm).2; omega⟩
              have HLN := Lib.hid (by have k := len_own wr _ g v8 (all ++ X) hSx; rw [List.length_append] at k; exact k)
              clear hOY hgx hS9 hO9 hR9n hK8 hg9 hb7 hOld hv9 hv8 hl9 hl8 hO7l hl hlR hsep hYl hY hS hRow
              go_wp2_with fail
              refine (HLN.out).mono ?_
              rintro e w99 ⟨rfl, rfl⟩
              go_wp2
              refine ⟨⟨i + 1, all ++ X, wl, A9, c9, v8, by omega, by have := HT1.out; have := HTI.out; have := HAL.out; rw [List.length_append]; omega, by go_num, by rw [List.length_append], hwl, hbx, hSx, by rw [List.length_append]; exact hRx, by rw [List.length_append]; exact hsx, by rw [List.length_append]; exact hOx⟩, by simp [intOf]; omega⟩
        · go_wp2_with (first
            | ((with_reducible refine at_append ?_); refine wpList_append_sl (wr.alloc (.cells #[] 5)) rfl (.tmp 19) (.tmp 24) 27 rfl wr.heap.size 5 i0 (.int .u8 0) 1 Tryd.underlying27 hi0 hz0 hz1 hz2 rfl (.slice (some ⟨wr.heap.size, 0, none⟩) 0 0) 0 [] rfl (World.ownsRow_lit wr #[] 0 (Nat.le_refl _) (by unfold maxLen; omega) rfl) _ .u8 Ai X.length Ci (nI X) rfl sX HM1.out.1 HM1.out.2.1 HM1.out.2.2 ?_
               intro v7 w7 hO7 hg7 hv7
               simp only [Nat.zero_add, List.nil_append] at hO7
               obtain ⟨A7, c7, rfl, hs7⟩ := SlI.of_own hO7
               have hb7 : Below wr.heap.size wr w7 := ((Below.refl _ wr).alloc (Nat.le_refl _) _).grown hg7 (by simp) (fun k e => by simp [Value.ownBlock] at e; omega)
               have hz7 : wr.heap.size ≤ w7.heap.size := hb7.size
               have hb7w := hbw.trans (hb7.mono hz)
               have q7 := (hb7w.cell (p := ⟨gl, off + i * 2, none⟩) hgl).trans k0)
            | fail)
          have hS7 := hS.below hb7
          have hR7 := own_up hRow hb7
          have hT7 : ∀ W, Below w7.heap.size w7 W → Below w.heap.size w W := fun W h => hb7w.trans (h.mono hb7w.size)
          have K1 := Lib.hid (fun (W : World) (h : Below w7.heap.size w7 W) => sum_own w.heap.size g v all W (by have := h.size; omega) hf hk (HT.out W (hT7 W h)).1 (HT.out W (hT7 W h)).2 (hS7.below h) (by omega))
          have K2 := Lib.hid (fun (W : World) (h : Below w7.heap.size w7 W) => of_ref Aa ca all W (SlI.of_row' (own_up hR7 h)) HAB.out (by omega))
          have E1 := neq_digest all
          generalize Sh.digest all = D at K1 K2 E1
          refine (K1.out w7 (Below.refl _ _)).mono ?_
          rintro e w8 ⟨rfl, hb8⟩
          go_wp2_with fail
          refine (K2.out w8 hb8).mono ?_
          rintro e w9 ⟨rfl, hb9⟩
          have hb9' := hb8.trans (hb9.mono hb8.size)
          have hbr := hb7.trans (hb9'.mono hz7)
          have hbx := hbw.trans (hbr.mono hz)
          have hSx := hS.below hbr
          have hRx := own_up hRow hbr
          have hOx : OldAt w.heap.size w9 g v (.slice Aa all.length ca) u4 u6 wl := hOld.step hbr.size (fun k h1 _ _ _ => hbr.block k h1) (fun b e => .inl e) (fun b e => .inl e)
          have HLN := Lib.hid (len_own w9 _ g v all hSx)
          clear hS7 hR7 hO7 hs7 hg7 hv7 hOld hS hRow hT7
          go_wp2_with fail
          refine (HLN.out).mono ?_
          rintro e w99 ⟨rfl, rfl⟩
          go_wp2
          exact ⟨⟨i + 1, all, wl, Aa, ca, v, by omega, by have := HT1.out; have := HTI.out; have := HAL.out; omega, by go_num, rfl, hwl, hbx, hSx, hRx, hsep, hOx⟩, by simp [intOf]; omega⟩
        · go_wp2_with (first
            | ((with_reducible refine at_append ?_); refine wpList_append_sl (wr.alloc (.cells #[] 5)) rfl (.tmp 19) (.tmp 24) 27 rfl wr.heap.size 5 i0 (.int .u8 0) 1 Tryd.underlying27 hi0 hz0 hz1 hz2 rfl (.slice (some ⟨wr.heap.size, 0, none⟩) 0 0) 0 [] rfl (World.ownsRow_lit wr #[] 0 (Nat.le_refl _) (by unfold maxLen; omega) rfl) _ .u8 Ai X.length Ci (nI X) rfl sX HM1.out.1 HM1.out.2.1 HM1.out.2.2 ?_
               intro v7 w7 hO7 hg7 hv7
               simp only [Nat.zero_add, List.nil_append] at hO7
               obtain ⟨A7, c7, rfl, hs7⟩ := SlI.of_own hO7
               have hb7 : Below wr.heap.size wr w7 := ((Below.refl _ wr).alloc (Nat.le_refl _) _).grown hg7 (by simp) (fun k e => by simp [Value.ownBlock] at e; omega)
               have hz7 : wr.heap.size ≤ w7.heap.size := hb7.size
               have hb7w := hbw.trans (hb7.mono hz)
               have q7 := (hb7w.cell (p := ⟨gl, off + i * 2, none⟩) hgl).trans k0)
            | fail)
          have hS7 := hS.below hb7
          have hR7 := own_up hRow hb7
          refine (copy_own w.heap.size g v all w7 hS7).mono ?_
          rintro e w8 ⟨v8, rfl, hC8, hb8⟩
          have hz8 := hb8.size
          have hC8l := hC8.lt
          have hR8 := own_up hR7 hb8
          have sA8 := (SlI.of_row' hR8).alloc (.cells #[] 5)
          have HM8 := Lib.hid (show 0 + all.length ≤ maxLen ∧ (0 + all.length) * 1 ≤ 140737488355328 ∧ w8.heap.size ≤ (w8.alloc (.cells #[] 5)).heap.size by unfold maxLen; simp; omega)
          clear hO7 hs7 hg7 hv7
          go_wp2_with (first
            | ((with_reducible refine at_append ?_); refine wpList_append_sl (w8.alloc (.cells #[] 5)) rfl (.tmp 68) (.tmp 69) 27 rfl w8.heap.size 5 i0 (.int .u8 0) 1 Tryd.underlying27 hi0 hz0 hz1 hz2 rfl (.slice (some ⟨w8.heap.size, 0, none⟩) 0 0) 0 [] rfl (World.ownsRow_lit w8 #[] 0 (Nat.le_refl _) (by unfold maxLen; omega) rfl) _ .u8 Aa all.length ca (nI all) rfl sA8 HM8.out.1 HM8.out.2.1 HM8.out.2.2 ?_
               intro v9 w9 hO9 hg9 hv9
               simp only [Nat.zero_add, List.nil_append] at hO9
               obtain ⟨A9, c9, rfl, hs9⟩ := SlI.of_own hO9
               have hb9 : Below w8.heap.size w8 w9 := ((Below.refl _ w8).alloc (Nat.le_refl _) _).grown hg9 (by simp) (fun k e => by simp [Value.ownBlock] at e; omega))
            | fail)
          have hz9 := hb9.size
          have hb9' := hb8.trans (hb9.mono hz8)
          have hbr := hb7.trans (hb9'.mono hz7)
          have hbx := hbw.trans (hbr.mono hz)
          have hSx := hS.below hbr
          have hRx := own_up hRow hbr
          have hC9 := hC8.below hb9
          have hO9l := hO9.lt
          have hOx : OldAt w.heap.size w9 g v (.slice Aa all.length ca) (.pointer (some ⟨w7.heap.size, 0, none⟩)) (.slice A9 all.length c9) all := .inr ⟨w7.heap.size, w9.heap.size, w7.heap.size, v8, A9, c9, by omega, rfl, rfl, hC9, own_base hO9 hz8, Nat.le_refl _, by omega, fun b e => by have := (hC8l.2 b e).2; omega,
            fun b e => ⟨(hO9l b e).2, by have := (hO9l b e).1; omega, fun e' => by have := (hC8l.2 b e').2; have := (hO9l b e).1; omega⟩, Nat.le_refl _, by omega, fun b e => .inl (by have := (hl.2 b e).2; omega), fun b e => .inl (by have := (hlR b e).2; omega)⟩
          have HLN := Lib.hid (len_own w9 _ g v all hSx)
          clear hS7 hR7 hOld hS hRow hR8 sA8 hC8 hO9 hg9 hv9 hs9
          go_wp2_with fail
          refine (HLN.out).mono ?_
          rintro e w99 ⟨rfl, rfl⟩
          go_wp2
          exact ⟨⟨i + 1, all, all, Aa, ca, v, by omega, by have := HT1.out; have := HTI.out; have := HAL.out; omega, by go_num, rfl, by omega, hbx, hSx, hRx, hsep, hOx⟩, by simp [intOf]; omega⟩
        · go_wp2_with (first
            | ((with_reducible refine at_append ?_); refine wpList_append_sl (wr.alloc (.cells #[] 5)) rfl (.tmp 19) (.tmp 24) 27 rfl wr.heap.size 5 i0 (.int .u8 0) 1 Tryd.underlying27 hi0 hz0 hz1 hz2 rfl (.slice (some ⟨wr.heap.size, 0, none⟩) 0 0) 0 [] rfl (World.ownsRow_lit wr #[] 0 (Nat.le_refl _) (by unfold maxLen; omega) rfl) _ .u8 Ai X.length Ci (nI X) rfl sX HM1.out.1 HM1.out.2.1 HM1.out.2.2 ?_
               intro v7 w7 hO7 hg7 hv7
               simp only [Nat.zero_add, List.nil_append] at hO7
               obtain ⟨A7, c7, rfl, hs7⟩ := SlI.of_own hO7
               have hb7 : Below wr.heap.size wr w7 := ((Below.refl _ wr).alloc (Nat.le_refl _) _).grown hg7 (by simp) (fun k e => by simp [Value.ownBlock] at e; omega)
               have hz7 : wr.heap.size ≤ w7.heap.size := hb7.size
               have hb7w := hbw.trans (hb7.mono hz)
               have q7 := (hb7w.cell (p := ⟨gl, off + i * 2, none⟩) hgl).trans k0)
            | fail)
          have hSx := hS.below hb7
          have hRx := own_up hRow hb7
          have hOx : OldAt w.heap.size w7 g v (.slice Aa all.length ca) u4 u6 wl := hOld.step hb7.size (fun k h1 _ _ _ => hb7.block k h1) (fun b e => .inl e) (fun b e => .inl e)
          have HLN := Lib.hid (len_own w7 _ g v all hSx)
          clear hO7 hs7 hg7 hv7 hOld hS hRow
          refine (HLN.out).mono ?_
          rintro e w99 ⟨rfl, rfl⟩
          go_wp2
          exact ⟨⟨i + 1, all, wl, Aa, ca, v, by omega, by have := HT1.out; have := HTI.out; have := HAL.out; omega, by go_num, rfl, hwl, hb7w, hSx, hRx, hsep, hOx⟩, by simp [intOf]; omega⟩
      · obtain rfl : i = n := by omega
        have hm60 : all.length ≤ 4000 := by omega
        obtain ⟨_, _, _, _, _, _, _, hab⟩ := id hS
        have HAB := Lib.hid hab
        clear hab
        rcases hOld with ⟨rfl, rfl⟩ | ⟨z1, z2, go, vo, Aw, cw, hB, rfl, rfl, hSo, hRo, hgo1, hgo2, hvo, hAw, hzz2, hgz, hv1, hav1⟩
        · have hbF := hbw
          have hSF := hS
          have hRF := hRow
          clear hbw hS hRow
          have hTF : ∀ W, Below wr.heap.size wr W → Below w.heap.size w W := fun W h => hbF.trans (h.mono hbF.size)
          have K1 := Lib.hid (fun (W : World) (h : Below wr.heap.size wr W) => sum_own w.heap.size g v all W (by have := h.size; have := hbF.size; omega) hf hk (HT.out W (hTF W h)).1 (HT.out W (hTF W h)).2 (hSF.below h) (by omega))
          have K2 := Lib.hid (fun (W : World) (h : Below wr.heap.size wr W) => of_ref Aa ca all W (SlI.of_row' (own_up hRF h)) HAB.out (by omega))
          have K3 := Lib.hid (fun (W : World) (h : Below wr.heap.size wr W) => of_own Aa ca all W (HT.out W (hTF W h)).1 (HT.out W (hTF W h)).2 (SlI.of_row' (own_up hRF h)) HAB.out (by omega))
          have E2 := eql_digest all
          generalize Sh.digest all = D at K1 K2 K3 E2
          have HBF := Lib.hid hbF
          clear hTF hSF hRF hbF
          go_wp2_with fail
          refine (K1.out wr (Below.refl _ _)).mono ?_
          rintro e w91 ⟨rfl, hb91⟩
          go_wp2_with fail
          refine (K2.out w91 hb91).mono ?_
          rintro e w92 ⟨rfl, hb92⟩
          have hb92' := hb91.trans (hb92.mono hb91.size)
          go_wp2_with fail
          refine (K3.out w92 hb92').mono ?_
          rintro e w93 ⟨rfl, hb93⟩
          have hb93' := hb92'.trans (hb93.mono hb92'.size)
          go_wp2_with fail
          refine (K2.out w93 hb93').mono ?_
          rintro e w94 ⟨rfl, hb94⟩
          have hb94' := hb93'.trans (hb94.mono hb93'.size)
          go_wp2
          go_ret
          exact ⟨retb (by simp), HBF.out.trans (hb94'.mono HBF.out.size)⟩
        · have hl := hS.lt
          have hlR := hRow.lt
          have hlo := hSo.lt
          have hlRo := hRo.lt
          have hzw := hbw.size
          go_wp2_with fail
          rw [Lib.run_convert_bytes_const wr _ _ _ 4 4 Tryd.underlying27 Tryd.underlying5]
          simp only [Result.andThen]
          rw [Oper.upon_value]
          have hb1 : Below wr.heap.size wr (wr.alloc (.cells #[.int .u8 109, .int .u8 111, .int .u8 114, .int .u8 101] 5 (4, 5))) := (Below.refl _ wr).alloc (Nat.le_refl _) _
          have hc1 : SlI (wr.alloc (.cells #[.int .u8 109, .int .u8 111, .int .u8 114, .int .u8 101] 5 (4, 5))) (wr.alloc (.cells #[.int .u8 109, .int .u8 111, .int .u8 114, .int .u8 101] 5 (4, 5))).heap.size .u8 (some ⟨wr.heap.size, 0, none⟩) 4 4 (nI [109, 111, 114, 101]) := SlI.constB wr 5 [109, 111, 114, 101] 4 5 rfl (by omega)
          have hzq1 : (wr.alloc (.cells #[.int .u8 109, .int .u8 111, .int .u8 114, .int .u8 101] 5 (4, 5))).heap.size = wr.heap.size + 1 := by simp
          generalize wr.alloc (.cells #[.int .u8 109, .int .u8 111, .int .u8 114, .int .u8 101] 5 (4, 5)) = w1 at hb1 hc1 hzq1 ⊢
          have hb1w := hbw.trans (hb1.mono hzw)
          go_wp2_with fail
          have W1 := write_in z1 go vo wl [109, 111, 114, 101] (some ⟨wr.heap.size, 0, none⟩) 4 w1 (by omega) (by omega) (by omega) (HT.out w1 hb1w).1 (HT.out w1 hb1w).2 (hSo.below hb1) hc1 (fun _ a e => by cases e; show wr.heap.size ≠ go; omega) (by decide) (by simp; omega)
          rw [show ([109, 111, 114, 101] : List Nat).length = 4 from rfl] at W1
          refine ((callsIn_wide (n := 6)).1 W1).mono ?_
          rintro e w3 ⟨⟨u3, rfl⟩, vn, hSn, hKn, hvn⟩
          have hz3 := hKn.size
          have hb3 : Below z1 wr w3 := (hb1.mono (by omega)).trans (hKn.below (by omega) hgo1 (fun k e => (hlo.2 k e).1))
          have hb3w := hbw.trans (hb3.mono (by omega))
          have hln := hSn.lt
          have hS3 : ShaAt w3 w.heap.size g v all := hS.keep ((hKn.block g (by omega) (by omega) (fun e => by have := (hlo.2 g e.symm).1; omega)).trans (hb1.block g (by omega))) (fun b e => (hKn.block b (by have := (hl.2 b e).2; omega) (fun e' => by have := hv1 b e; omega) (fun e' => by have := hv1 b e; have := hvo b e'.symm; have := (hlo.2 b e'.symm).1; omega)).trans (hb1.block b (by have := (hl.2 b e).2; omega)))
          have hR3 := own_same hRow (fun b e => (hKn.block b (by have := (hlR b e).2; omega) (fun e' => by have := hav1 b e; omega) (fun e' => by have := hav1 b e; have := hvo b e'.symm; have := (hlo.2 b e'.symm).1; omega)).trans (hb1.block b (by have := (hlR b e).2; omega)))
          have hRo3 := own_same hRo (fun b e => (hKn.block b (by have := (hlRo b e).2; omega) (hAw b e).2.1 (fun e' => (hAw b e).2.2 e'.symm)).trans (hb1.block b (by have := (hlRo b e).2; omega)))
          obtain ⟨_, _, _, _, _, _, _, habw⟩ := id hSo
          have HABW := Lib.hid habw
          have HTW := Lib.hid (HT.out w3 hb3w)
          clear habw hS hRow hRo hSo W1 hKn hb1 hb1w hc1 hvn
          go_wp2_with fail
          refine (sum_own z1 go vn (wl ++ [109, 111, 114, 101]) w3 (by omega) (by omega) (by omega) HTW.out.1 HTW.out.2 hSn (by rw [List.length_append]; simp; omega)).mono ?_
          rintro e w4 ⟨rfl, hb4⟩
          have hz4 := hb4.size
          have hb4' := hb3.trans (hb4.mono (by omega))
          have hb4w := hb3w.trans (hb4.mono (by omega))
          have hS4 := hS3.below hb4
          have hR4 := own_up hR3 hb4
          have hRo4 := own_up hRo3 hb4
          obtain ⟨D1, hD1⟩ : ∃ D, Sh.digest (wl ++ [109, 111, 114, 101]) = D := ⟨_, rfl⟩
          rw [hD1]
          have HD1 := Lib.hid hD1
          clear hD1 hS3 hR3 hRo3 hSn
          go_wp2_with fail
          rw [Lib.run_convert_bytes_const w4 _ _ _ 4 4 Tryd.underlying27 Tryd.underlying5]
          simp only [Result.andThen]
          rw [Oper.upon_value]
          have hb5 : Below w4.heap.size w4 (w4.alloc (.cells #[.int .u8 109, .int .u8 111, .int .u8 114, .int .u8 101] 5 (4, 5))) := (Below.refl _ w4).alloc (Nat.le_refl _) _
          have hc5 : SlI (w4.alloc (.cells #[.int .u8 109, .int .u8 111, .int .u8 114, .int .u8 101] 5 (4, 5))) (w4.alloc (.cells #[.int .u8 109, .int .u8 111, .int .u8 114, .int .u8 101] 5 (4, 5))).heap.size .u8 (some ⟨w4.heap.size, 0, none⟩) 4 4 (nI [109, 111, 114, 101]) := SlI.constB w4 5 [109, 111, 114, 101] 4 5 rfl (by omega)
          have hz5 : (w4.alloc (.cells #[.int .u8 109, .int .u8 111, .int .u8 114, .int .u8 101] 5 (4, 5))).heap.size = w4.heap.size + 1 := by simp
          generalize w4.alloc (.cells #[.int .u8 109, .int .u8 111, .int .u8 114, .int .u8 101] 5 (4, 5)) = w5 at hb5 hc5 hz5 ⊢
          have hb5w := hb4w.trans (hb5.mono (by omega))
          have hS5 := hS4.below hb5
          have hR5 := own_up hR4 hb5
          have hRo5 := own_up hRo4 hb5
          have HM5 := Lib.hid (show wl.length + 4 ≤ maxLen ∧ (wl.length + 4) * 1 ≤ 140737488355328 ∧ z1 ≤ w5.heap.size by unfold maxLen; omega)
          clear hS4 hR4 hRo4
          go_wp2_with (first
            | ((with_reducible refine at_append ?_); refine wpList_append_sl w5 rfl (.tmp 86) (.tmp 88) 27 rfl z1 5 i0 (.int .u8 0) 1 Tryd.underlying27 hi0 hz0 hz1 hz2 rfl (.slice Aw wl.length cw) wl.length _ rfl hRo5 _ .u8 (some ⟨w4.heap.size, 0, none⟩) 4 4 (nI [109, 111, 114, 101]) rfl hc5 HM5.out.1 HM5.out.2.1 HM5.out.2.2 ?_
               intro v6 w6 hO6 hg6 hv6
               rw [← List.map_append, show nI wl ++ nI [109, 111, 114, 101] = nI (wl ++ [109, 111, 114, 101]) by simp [nI]] at hO6
               obtain ⟨A6, c6, rfl, hs6⟩ := SlI.of_own hO6
               have hb6 : Below w.heap.size w w6 := hb5w.grown hg6 (by omega) (fun k e => by have := (hlRo k e).1; omega))
            | fail)
          have hz6 := hg6.size
          have hb46 : Below z1 wr w6 := (hb4'.trans (hb5.mono (by omega))).grown hg6 (by omega) (fun k e => (hlRo k e).1)
          have hS6 : ShaAt w6 w.heap.size g v all := hS5.keep (hg6.block g (by omega) (fun e => by have := hlRo g e.symm; omega)) (fun b e => hg6.block b (by have := (hl.2 b e).2; omega) (fun e' => by have := hv1 b e; have := hlRo b e'.symm; have := hAw b e'.symm; omega))
          have hR6 := own_same hR5 (fun b e => hg6.block b (by have := (hlR b e).2; omega) (fun e' => by have := hav1 b e; have := hlRo b e'.symm; have := hAw b e'.symm; omega))
          rw [show wl.length + 4 = (wl ++ [109, 111, 114, 101]).length by simp] at hs6 ⊢
          have K6 := of_ref A6 c6 (wl ++ [109, 111, 114, 101]) w6 hs6 (fun x hx => by
            rcases List.mem_append.1 hx with h | h
            · exact HABW.out x h
            · simp at h; omega) (by rw [List.length_append]; simp; omega)
          have E6 := neq_digest (wl ++ [109, 111, 114, 101])
          rw [HD1.out] at K6 E6
          refine K6.mono ?_
          rintro e w7 ⟨rfl, hb7⟩
          have hbF := hb6.trans (hb7.mono (by omega))
          have hSF := hS6.below hb7
          have hRF := own_up hR6 hb7
          clear hS5 hR5 hRo5 hO6 hS6 hR6 K6 hs6 hg6 hv6 hc5 hb5 hb5w hb4' hb4w hb4 hb3 hb3w hb46 hb6 hb7
          have hTF : ∀ W, Below w7.heap.size w7 W → Below w.heap.size w W := fun W h => hbF.trans (h.mono hbF.size)
          have K1 := Lib.hid (fun (W : World) (h : Below w7.heap.size w7 W) => sum_own w.heap.size g v all W (by have := h.size; have := hbF.size; omega) hf hk (HT.out W (hTF W h)).1 (HT.out W (hTF W h)).2 (hSF.below h) (by omega))
          have K2 := Lib.hid (fun (W : World) (h : Below w7.heap.size w7 W) => of_ref Aa ca all W (SlI.of_row' (own_up hRF h)) HAB.out (by omega))
          have K3 := Lib.hid (fun (W : World) (h : Below w7.heap.size w7 W) => of_own Aa ca all W (HT.out W (hTF W h)).1 (HT.out W (hTF W h)).2 (SlI.of_row' (own_up hRF h)) HAB.out (by omega))
          have E2 := eql_digest all
          generalize Sh.digest all = D at K1 K2 K3 E2
          have HBF := Lib.hid hbF
          clear hTF hSF hRF hbF
          go_wp2_with fail
          refine (K1.out w7 (Below.refl _ _)).mono ?_
          rintro e w91 ⟨rfl, hb91⟩
          go_wp2_with fail
          refine (K2.out w91 hb91).mono ?_
          rintro e w92 ⟨rfl, hb92⟩
          have hb92' := hb91.trans (hb92.mono hb91.size)
          go_wp2_with fail
          refine (K3.out w92 hb92').mono ?_
          rintro e w93 ⟨rfl, hb93⟩
          have hb93' := hb92'.trans (hb93.mono hb92'.size)
          go_wp2_with fail
          refine (K2.out w93 hb93').mono ?_
          rintro e w94 ⟨rfl, hb94⟩
          have hb94' := hb93'.trans (hb94.mono hb93'.size)
          go_wp2
          go_ret
          exact ⟨retb (by simp), HBF.out.trans (hb94'.mono HBF.out.size)⟩
end Go.Proofs.YtjkhkgdijnhdmaaDoor
