/- (*Sha).Copy. -/
import Derived.Test.YtjkhkgdijnhdmaaDoorShaKeep
namespace Go.Proofs.YtjkhkgdijnhdmaaDoor
open Go.RowKit

theorem shC_one (s : Sh.St) (A : Option Addr) (a b : Nat) (n : Nat) (bg : Bool) : (shC s (.slice A a b) n bg).all (·.oneCell') = true := by simp [shC, Value.oneCell']
set_option maxRecDepth 100000 in
set_option maxHeartbeats 2000000 in
theorem copy_own (B g : Nat) (v : Value) (all : List Nat) (w : World) (hS : ShaAt w B g v all) :
    Calls Tryd.prog 17 #[.pointer (some ⟨g, 0, none⟩)] w fun e w' => ∃ v', e = .returned (.pointer (some ⟨w.heap.size, 0, none⟩)) ∧ ShaAt w' w.heap.size w.heap.size v' all ∧ Below w.heap.size w w' := by
  obtain ⟨s, bg, hX, hst, hBg, hown, hal, hab⟩ := hS
  obtain ⟨i0, hi, hz0, hz1, hz2⟩ := info_parts infoB
  obtain ⟨A0, c0, rfl, hs0⟩ := SlI.of_own hown
  have hrl := Sh.restOf_len all
  obtain ⟨R, hR⟩ : ∃ R, Sh.restOf all = R := ⟨_, rfl⟩
  have HR := Lib.hid hR
  rw [hR] at hown hs0 hX hrl
  clear hR
  have HRM := Lib.hid (show 0 + R.length ≤ maxLen ∧ (0 + R.length) * 1 ≤ 140737488355328 by unfold maxLen; omega)
  have HAB := Lib.hid hab
  have HST := Lib.hid hst
  clear hrl hab hst
  have hsz : (Tryd.prog.info? 30).map (·.size) = some (shC s (.slice A0 R.length c0) all.length bg).size := shSize
  go_in
  go_wp2_with (first
    | (refine wpList_load_row rfl 30 (.tmp 7) rfl g rfl 30 (shC s (.slice A0 R.length c0) all.length bg) (0, 0) _ hX Tryd.underlying30 rfl hsz ?_)
    | (refine wpList_store_row rfl 30 (.tmp 3) (.tmp 8) rfl w.heap.size (shC s (.slice A0 R.length c0) all.length bg) rfl rfl 30 (shC st0 (.slice none 0 0) 0 false) (Held.new w 30 (shC st0 (.slice none 0 0) 0 false)) hsz rfl (shC_one _ _ _ _ _ _) ?_
       have hb2 : Below w.heap.size w ((w.alloc (.cells (shC st0 (.slice none 0 0) 0 false) 30)).setRow w.heap.size (shC s (.slice A0 R.length c0) all.length bg)) := below_setRow ((Below.refl _ w).alloc (Nat.le_refl _) _) _ _ (Nat.le_refl _)
       have hX2 : Held ((w.alloc (.cells (shC st0 (.slice none 0 0) 0 false) 30)).setRow w.heap.size (shC s (.slice A0 R.length c0) all.length bg)) w.heap.size 30 (shC s (.slice A0 R.length c0) all.length bg) := setRow_heap _ _ _ _ _ _ (Held.new w 30 (shC st0 (.slice none 0 0) 0 false))
       have hc2 : ((w.alloc (.cells (shC st0 (.slice none 0 0) 0 false) 30)).setRow w.heap.size (shC s (.slice A0 R.length c0) all.length bg)).cell? ⟨g, 8, none⟩ = some (.slice A0 R.length c0) := (hX.below hb2 hX.lt).cell 8
       have hz2' : ((w.alloc (.cells (shC st0 (.slice none 0 0) 0 false) 30)).setRow w.heap.size (shC s (.slice A0 R.length c0) all.length bg)).heap.size = w.heap.size + 1 := by simp
       have hs2 := hs0.up hb2
       have HB2 := Lib.hid hb2
       clear hb2
       change wpList _ _ _ _ _ ((w.alloc (.cells (shC st0 (.slice none 0 0) 0 false) 30)).setRow w.heap.size (shC s (.slice A0 R.length c0) all.length bg))
       generalize ((w.alloc (.cells (shC st0 (.slice none 0 0) 0 false) 30)).setRow w.heap.size (shC s (.slice A0 R.length c0) all.length bg)) = w2 at hX2 hc2 hz2' hs2 HB2 ⊢)
    | ((with_reducible refine at_append ?_); refine wpList_append_sl w2 rfl (.const (.slice none 0 0)) (.tmp 12) 27 rfl w.heap.size 5 i0 (.int .u8 0) 1 Tryd.underlying27 hi hz0 hz1 hz2 rfl (.slice none 0 0) 0 [] rfl (World.ownsRow_nil _ _ _ _) w2.heap.size .u8 A0 R.length c0 (nI R) rfl hs2 HRM.out.1 HRM.out.2 (by omega) ?_
       intro v5 w5 hO5 hg5 hv5
       simp only [Nat.zero_add, List.nil_append] at hO5
       obtain ⟨A5, c5, rfl, hs5⟩ := SlI.of_own hO5
       have hX5 : Held w5 w.heap.size 30 (shC s (.slice A0 R.length c0) all.length bg) := hX2.kept hg5 (by simp [Value.ownBlock])
       have q8 : w5.cell? ⟨w.heap.size, 8, none⟩ = some (.slice A0 R.length c0) := hX5.cell 8
       have f8 := hX5.frozen 8))
  go_ret
  have hX6 := hX5.set 8 (.slice A5 R.length c5)
  refine ⟨_, rfl, ⟨s, bg, hX6, HST.out, Nat.le_refl _, ?_, hal, HAB.out⟩, (HB2.out.grown hg5 (by omega) (fun k e => by simp [Value.ownBlock] at e)).setCell (p := ⟨w.heap.size, 8, none⟩) (Nat.le_refl _) _⟩
  rw [HR.out]
  exact hO5.kept (grownBy_set (World.grownBy.refl w5 (some w.heap.size)) (p := ⟨w.heap.size, 8, none⟩) rfl _) (.inr (fun e => hX5.not_row (by decide) hO5 e.symm))
end Go.Proofs.YtjkhkgdijnhdmaaDoor
