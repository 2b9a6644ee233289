/- An image is read as its blocks, the image of what is read is the image: for all blocks, registers and definitions, where what is read is of bulk at most 1048576, the law ModelBack returns true. -/
import Derived.Test.YtnnknnaimabehaaRows
import Derived.JoinedCond
import Derived.Test.YtnnknnaimabehaaMem
import Derived.Test.YtnnknnaimabehaaTab
import Derived.Test.YtnnknnaimabehaaModBack
import Derived.Test.YtnnknnaimabehaaModIdx
import Derived.Test.YtnnknnaimabehaaModRow
import Derived.WalkKit
import Derived.ProofKit
import Derived.OpenShut
import Derived.ShutString
import Derived.ChangeOld
import Derived.Below
import Derived.ChangeArms
namespace Go.Proofs.Ytnnknnaimabehaa.modelBack
open Go.ChangeShapes Go.WideShapes Go.ChangeAt Go.RowKit
open Go.ChangeMaps (open_string shut_string)
set_option linter.unusedVariables false

theorem own : ownKnob Try.prog.godebug = none := by kernel_rfl
theorem laidOut : laidOutB Try.prog = true := by kernel_rfl

theorem walk (a0 : Option Addr) (n0 c0 : Nat) (x0 : List BlkP) (a1 : Option Addr) (n1 c1 : Nat) (x1 : List Int) (a2 : Option Addr) (n2 c2 : Nat) (x2 : List DefP) (w : World)    (s0 : BkI w w.heap.size a0 n0 c0 x0) (b0 : BlksIn x0) (u0 : partsN x0 ≤ 1048576) (s1 : SlI w w.heap.size .u16 a1 n1 c1 x1) (b1 : ∀ x ∈ x1, (Lit.int .u16 x).wf = true) (s2 : DfI w w.heap.size a2 n2 c2 x2) (b2 : DefsIn x2) (u2 : defsN x2 ≤ 1048576) :
    Calls Try.prog 7 #[.slice a0 n0 c0, .slice a1 n1 c1, .slice a2 n2 c2] w fun e w' => e = .returned (.bool true) ∧ Below w.heap.size w w' := by
  exact law_back a0 n0 c0 x0 a1 n1 c1 x1 a2 n2 c2 x2 w s0 u0 s1 (fun x hx => by have := bounds_u16 (b1 x hx); omega) s2

set_option maxHeartbeats 4000000 in
set_option maxRecDepth 100000 in
theorem contract (H : Type) (enc : TypeId × Value → H) (W : World) (base : Nat) (args : Array Value) (ds gs : List (DataW H)) (before : List MemPlace)
    (hval0 : ∀ (j : Nat) t v, Try.f7.params[j]? = some t → args[j]? = some v → Value.okWide Try.prog W .any base t v)
    (hW : DataW.Whole enc Try.prog Try.f7.params.toList Rows.modelBackSpec.vars false W args.toList ds gs before) (hk : Rows.uptoSmall H (ds ++ gs) = true) :
    Calls Try.prog 7 args W fun e W' => ∃ v, e = .returned v ∧ Rows.modelBackSpec.post enc Try.prog Try.f7 false true false false W args v W' := by
  have hval : ∀ (j : Nat) t v, Try.f7.params[j]? = some t → args[j]? = some v → Value.okWide Try.prog W .any base t v := hval0
  have hW' := hW
  obtain ⟨p, q, hA0, hV, rfl, hfz, hnd⟩ := hW
  have hA : DataW.TrodAll enc Try.prog W 0 (fun _ => true) true Try.f7.params.toList args.toList ds p := hA0
  rw [Try.params7] at hA hval
  obtain ⟨v0, vs0, d0, ds0, p0, q0, hargs, rfl, rfl, h0, r0⟩ := trodAll_cons hA
  obtain ⟨v1, vs1, d1, ds1, p1, q1, rfl, rfl, rfl, h1, r1⟩ := trodAll_cons r0
  obtain ⟨v2, vs2, d2, ds2, p2, q2, rfl, rfl, rfl, h2, r2⟩ := trodAll_cons r1
  obtain ⟨rfl, rfl, rfl⟩ := trodAll_nil r2
  obtain rfl : args = #[v0, v1, v2] := by cases args; simp_all
  obtain ⟨rfl, rfl⟩ := trodVars_none hV
  obtain ⟨a0, n0, c0, rfl⟩ := okWide_slice Try.underlying22 (hval 0 22 v0 rfl rfl)
  have k0 := h0
  have lt0 : ∀ x ∈ p0, x.block < W.heap.size := by obtain ⟨m, hm⟩ := k0; exact DataW.trod_lt m _ _ _ hm
  obtain ⟨f0', hf0'⟩ := h0
  obtain ⟨A0', n0', c0', x0, e0', s0, b0, u0'⟩ := open_blocks hf0'
  obtain ⟨rfl, rfl, rfl⟩ : a0 = A0' ∧ n0 = n0' ∧ c0 = c0' := by simpa [Value.cells] using e0'
  obtain ⟨a1, n1, c1, rfl⟩ := okWide_slice Try.underlying25 (hval 1 25 v1 rfl rfl)
  have k1 := h1
  have lt1 : ∀ x ∈ p1, x.block < W.heap.size := by obtain ⟨m, hm⟩ := k1; exact DataW.trod_lt m _ _ _ hm
  obtain ⟨f1', hf1'⟩ := h1
  obtain ⟨x1, s1, b1⟩ : ∃ xs, SlI W W.heap.size .u16 a1 n1 c1 xs ∧ ∀ x ∈ xs, (Lit.int .u16 x).wf = true := by
    rcases open_ints Try.underlying25 Try.underlying40 (by kernel_rfl) hf1' with ⟨hcs, _⟩ | ⟨x, l, c, zs, hcs, _, hl, hm, hz, _, hcell, hwz⟩
    · simp [Value.cells] at hcs
      obtain ⟨rfl, rfl, rfl⟩ := hcs
      exact ⟨[], SlI.nil _ _ _, by simp⟩
    · simp [Value.cells] at hcs
      obtain ⟨rfl, rfl, rfl⟩ := hcs
      exact ⟨zs.take _, SlI.of_row hl hm (by simpa using hz) hcell, fun y hy => hwz y (List.mem_of_mem_take hy)⟩
  obtain ⟨a2, n2, c2, rfl⟩ := okWide_slice Try.underlying49 (hval 2 49 v2 rfl rfl)
  have k2 := h2
  have lt2 : ∀ x ∈ p2, x.block < W.heap.size := by obtain ⟨m, hm⟩ := k2; exact DataW.trod_lt m _ _ _ hm
  obtain ⟨f2', hf2'⟩ := h2
  obtain ⟨A2', n2', c2', x2, e2', s2, b2, u2'⟩ := open_defs hf2'
  obtain ⟨rfl, rfl, rfl⟩ : a2 = A2' ∧ n2 = n2' ∧ c2 = c2' := by simpa [Value.cells] using e2'
  have hkb : Rows.uptoBulkAll (d0 :: d1 :: d2 :: []) ≤ 1048576 := by
    have h := of_decide_eq_true hk
    simpa only [List.append_nil, List.cons_append, List.nil_append] using h
  simp only [Rows.uptoBulkAll] at hkb
  dsimp only at u0'
  dsimp only at u2'
  clear hA0 hval0
  refine (walk a0 n0 c0 x0 a1 n1 c1 x1 a2 n2 c2 x2 W  s0 b0 (by omega) s1 b1 s2 b2 (by omega)).mono fun e W' ⟨he, bel⟩ => ?_
  subst he
  exact ⟨_, rfl, _, _, _, [], _, [], hW', trodAll_mk1 (shut_bool Try.underlying4 _), (trodAll_cons_mk (Below.trod laidOut (by kernel_rfl) (of_decide_eq_true (by kernel_rfl)) k0 bel lt0) (trodAll_cons_mk (Below.trod laidOut (by kernel_rfl) (of_decide_eq_true (by kernel_rfl)) k1 bel lt1) (trodAll_cons_mk (Below.trod laidOut (by kernel_rfl) (of_decide_eq_true (by kernel_rfl)) k2 bel lt2) trodAll_mk0))), rfl, bel.frame _, fun h => by cases h⟩

set_option maxRecDepth 100000 in
theorem lifted (os : Os) (started : os.Started) (H : Type) (enc : TypeId × Value → H) (F : Stop.Interp) :
    ReturnsInHanded {} Try.checked os 7 .any ((Rows.OpenSpec.upto Rows.modelBackSpec).pre6 enc Try.prog Try.f7 Rows.modelBackUptoRow.domain false) (((Rows.OpenSpec.upto Rows.modelBackSpec).at F).post enc Try.prog Try.f7 false true false false) := by
  refine returnsInHanded_of_cond (C := Try.checked) (s := Rows.OpenSpec.upto Rows.modelBackSpec) (k := Rows.uptoSmall) rfl own started (by kernel_rfl) Try.func7
    (OpenSpec.witness (enc := enc) (C := Try.checked) (s := Rows.OpenSpec.upto Rows.modelBackSpec) (k := Rows.uptoSmall) rfl false ⟨#[], #[.slice none 0 0, .slice none 0 0, .slice none 0 0], []⟩ 8 (by kernel_rfl) (by kernel_rfl) (by kernel_rfl)
      (x := ([.nil, .nil, .nil], [], [])) (by kernel_rfl) rfl (by kernel_rfl)) ?_
  intro W base args ds gs before hval hW _ hk _
  exact contract H enc W base args ds gs before hval hW hk

theorem over : Rows.modelBackUptoRow.holds Try.pinned (Rows.OpenSpec.upto Rows.modelBackSpec) :=
  OpenClaim.holds_of_cond 7 Try.f7 rfl rfl rfl rfl rfl rfl rfl ⟨rfl, rfl, rfl, rfl, rfl⟩ rfl rfl rfl rfl rfl (by kernel_rfl) Try.func7 (by kernel_rfl)
    (of_decide_eq_true (by kernel_rfl)) (by unfold Func.isWrapper; first | (rw [if_pos (by decide +kernel)]; kernel_rfl) | (rw [if_neg (by decide +kernel)]; exact ⟨rfl, rfl⟩))
    (fun os started H enc _ F => lifted os started H enc F)

/-- The statement. -/
theorem proved : Rows.ModelBackUptoSaid := over
#print axioms proved
end Go.Proofs.Ytnnknnaimabehaa.modelBack
