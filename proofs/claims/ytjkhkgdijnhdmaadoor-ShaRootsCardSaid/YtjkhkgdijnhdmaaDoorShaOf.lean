/- sha.Of. -/
import Derived.Test.YtjkhkgdijnhdmaaDoorShaSum
namespace Go.Proofs.YtjkhkgdijnhdmaaDoor
open Go.RowKit

theorem hash_size (l : List Nat) (h : l.length = 32) : (Tryd.prog.info? 35).map (·.size) = some (arr8 l).size := by rw [arr8_size, h]; exact hashSizeN
/-- A fresh Sha. -/
theorem ShaAt.fresh {w : World} {B g : Nat} (h : Held w g 30 (shC st0 (.slice none 0 0) 0 false)) (hB : B ≤ g) : ShaAt w B g (.slice none 0 0) [] :=
  ⟨st0, false, h, Or.inr ⟨rfl, rfl, rfl⟩, hB, World.ownsRow_nil _ _ _ _, by simp, fun _ h => by cases h⟩
set_option maxRecDepth 100000 in
set_option maxHeartbeats 2000000 in
theorem of_own (A : Option Addr) (cap : Nat) (bs : List Nat) (w : World) (hT : Tab w 0 .u32 firstI) (hT2 : Tab w 1 .u32 kI) (hR : SlI w w.heap.size .u8 A bs.length cap (nI bs)) (hbs : ∀ x ∈ bs, x < 256) (hmax : bs.length ≤ 999000) :
    Calls Tryd.prog 19 #[.slice A bs.length cap] w fun e w' => e = .returned (.agg (arr8 (Sh.digest bs))) ∧ Below w.heap.size w w' := by
  have hf := hT.lt (by decide)
  have hk := hT2.lt (by decide)
  have HT := Lib.hid hT
  have HT2 := Lib.hid hT2
  have HR := Lib.hid hR
  have HBS := Lib.hid hbs
  clear hT hT2 hR hbs
  go_in
  go_wp2_with fail
  obtain ⟨w1, hw1⟩ : ∃ w1, (w.alloc (.cells (arr8 (List.replicate 32 0)) 35)).alloc (.cells (shC st0 (.slice none 0 0) 0 false) 30) = w1 := ⟨_, rfl⟩
  have hb1 : Below w.heap.size w w1 := by rw [← hw1]; exact ((Below.refl _ w).alloc (Nat.le_refl _) _).alloc (by simp) _
  have hO1 : Held w1 w.heap.size 35 (arr8 (List.replicate 32 0)) := by rw [← hw1]; exact (Held.new w _ _).alloc _
  have hS1 : Held w1 (w.heap.size + 1) 30 (shC st0 (.slice none 0 0) 0 false) := by
    rw [← hw1]; have := Held.new (w.alloc (.cells (arr8 (List.replicate 32 0)) 35)) 30 (shC st0 (.slice none 0 0) 0 false); rw [World.size_alloc] at this; exact this
  have hz1 : w1.heap.size = w.heap.size + 2 := by rw [← hw1]; simp
  change Calls _ _ _ ((w.alloc (.cells (arr8 (List.replicate 32 0)) 35)).alloc (.cells (shC st0 (.slice none 0 0) 0 false) 30)) _
  rw [hw1]
  clear hw1
  refine ((callsIn_wide (n := 6)).1 (write_in w.heap.size (w.heap.size + 1) (.slice none 0 0) [] bs A cap w1 (by omega) hf hk (HT.out.up hb1) (HT2.out.up hb1) (ShaAt.fresh hS1 (by omega)) (HR.out.up hb1) (fun h a ha => by
    obtain ⟨g, off, e, hg⟩ := HR.out.some_ h
    rw [ha] at e
    injection e with e
    rw [e]
    show g ≠ _
    omega) HBS.out (by simp; omega))).mono ?_
  rintro e w2 ⟨⟨u, rfl⟩, v', hS2, hK2, hv2⟩
  rw [List.nil_append] at hS2
  have hb2 : Below w.heap.size w w2 := hb1.trans (hK2.below (by omega) (by omega) (fun k e => by simp [Value.ownBlock] at e))
  have hO2 : Held w2 w.heap.size 35 (arr8 (List.replicate 32 0)) := (hK2.block _ (by omega) (by omega) (by simp [Value.ownBlock])).trans hO1
  have hz2 := hK2.size
  clear hK2 hv2 hS1 hO1
  have HS := Lib.hid (sum_own w.heap.size (w.heap.size + 1) v' bs w2 (by omega) hf hk (HT.out.up hb2) (HT2.out.up hb2) hS2 hmax)
  clear hS2
  have hdl : (Sh.digest bs).length = 32 := Sh.digest_len bs
  obtain ⟨D, hD⟩ : ∃ D, Sh.digest bs = D := ⟨_, rfl⟩
  have HD := Lib.hid hD
  rw [hD] at hdl HS
  clear hD
  go_wp2_with fail
  refine HS.out.mono ?_
  rintro e w3 ⟨rfl, hb3⟩
  have hO3 := hO2.below hb3 hO2.lt
  have hbw := hb2.trans (hb3.mono (by omega))
  clear hO2 hb3
  go_wp2_with (refine wpList_store_row rfl 35 (.tmp 2) (.tmp 10) rfl w.heap.size (arr8 D) rfl rfl 35 (arr8 (List.replicate 32 0)) hO3 (hash_size D hdl) (by rw [arr8_size, arr8_size, hdl]; rfl) (arr8_one _) ?_)
  refine bodyPost_ret (v := .agg (arr8 D)) (results_cell_row Tryd.results19 _ _ w.heap.size 35 (arr8 D) (0, 0) _ rfl (setRow_heap _ _ _ _ _ _ hO3) Tryd.underlying35 rfl (hash_size D hdl)) rfl ⟨by rw [HD.out], below_setRow hbw _ _ (Nat.le_refl _)⟩
end Go.Proofs.YtjkhkgdijnhdmaaDoor
