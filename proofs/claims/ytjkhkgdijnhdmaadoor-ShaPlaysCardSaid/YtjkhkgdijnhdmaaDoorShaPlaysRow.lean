/- Whatever is taken, in whatever pieces, the hash is the document's: for all calls the law ShaPlays returns true. No condition. -/
import Derived.Test.YtjkhkgdijnhdmaaDoorRows
import Derived.Test.YtjkhkgdijnhdmaaDoorCards
import Derived.Test.YtjkhkgdijnhdmaaDoorTie
import Derived.Test.YtjkhkgdijnhdmaaDoorMem
import Derived.Test.YtjkhkgdijnhdmaaDoorTab
import Derived.Test.YtjkhkgdijnhdmaaDoorShaPlays
import Derived.Deep.SlicePairs
import Derived.SizedLaws
import Derived.WalkKit
import Derived.ProofKit
import Derived.OpenShut
import Derived.ShutString
import Derived.ChangeOld
import Derived.Below
import Derived.ChangeArms
import Derived.Deep.DeepHandedRow
import Derived.Lib.LaidTab
import Derived.Stop.LaidErr
namespace Go.Proofs.YtjkhkgdijnhdmaaDoor.shaPlays
open Go.ChangeShapes Go.WideShapes Go.ChangeAt Go.RowKit
open Go.ChangeMaps (open_string shut_string)
set_option linter.unusedVariables false

theorem own : ownKnob Tryd.prog.godebug = none := by kernel_rfl
theorem laidOut : laidOutB Tryd.prog = true := by kernel_rfl
theorem g_0 : Tryd.prog.globalNamed "kilowatt/sha.k" = some 1 := by kernel_rfl
theorem gt_0 : (Tryd.prog.globals[1]?).map (·.type) = some 69 := by kernel_rfl
theorem tab_0 {W : World} (h : laidMet Tryd.prog Rows.shaPlaysRow.laid W) : Tab W 1 .u32 [1116352408, 1899447441, 3049323471, 3921009573, 961987163, 1508970993, 2453635748, 2870763221, 3624381080, 310598401, 607225278, 1426881987, 1925078388, 2162078206, 2614888103, 3248222580, 3835390401, 4022224774, 264347078, 604807628, 770255983, 1249150122, 1555081692, 1996064986, 2554220882, 2821834349, 2952996808, 3210313671, 3336571891, 3584528711, 113926993, 338241895, 666307205, 773529912, 1294757372, 1396182291, 1695183700, 1986661051, 2177026350, 2456956037, 2730485921, 2820302411, 3259730800, 3345764771, 3516065817, 3600352804, 4094571909, 275423344, 430227734, 506948616, 659060556, 883997877, 958139571, 1322822218, 1537002063, 1747873779, 1955562222, 2024104815, 2227730452, 2361852424, 2428436474, 2756734187, 3204031479, 3329325298] := by
  have h1 : Lib.TabIs Tryd.prog W "kilowatt/sha.k" .u32 [1116352408, 1899447441, 3049323471, 3921009573, 961987163, 1508970993, 2453635748, 2870763221, 3624381080, 310598401, 607225278, 1426881987, 1925078388, 2162078206, 2614888103, 3248222580, 3835390401, 4022224774, 264347078, 604807628, 770255983, 1249150122, 1555081692, 1996064986, 2554220882, 2821834349, 2952996808, 3210313671, 3336571891, 3584528711, 113926993, 338241895, 666307205, 773529912, 1294757372, 1396182291, 1695183700, 1986661051, 2177026350, 2456956037, 2730485921, 2820302411, 3259730800, 3345764771, 3516065817, 3600352804, 4094571909, 275423344, 430227734, 506948616, 659060556, 883997877, 958139571, 1322822218, 1537002063, 1747873779, 1955562222, 2024104815, 2227730452, 2361852424, 2428436474, 2756734187, 3204031479, 3329325298] := Lib.tabIs_of_head g_0 gt_0 Tryd.underlying69 Tryd.underlying25 (by kernel_rfl) (by kernel_rfl) h
  exact fun i hi => h1.cell g_0 i hi
theorem g_1 : Tryd.prog.globalNamed "kilowatt/sha.first" = some 0 := by kernel_rfl
theorem gt_1 : (Tryd.prog.globals[0]?).map (·.type) = some 26 := by kernel_rfl
theorem tab_1 {W : World} (h : laidMet Tryd.prog Rows.shaPlaysRow.laid W) : Tab W 0 .u32 [1779033703, 3144134277, 1013904242, 2773480762, 1359893119, 2600822924, 528734635, 1541459225] := by
  have h1 : Lib.TabIs Tryd.prog W "kilowatt/sha.first" .u32 [1779033703, 3144134277, 1013904242, 2773480762, 1359893119, 2600822924, 528734635, 1541459225] := Lib.tabIs_of_head g_1 gt_1 Tryd.underlying26 Tryd.underlying25 (by kernel_rfl) (by kernel_rfl) (laidMet.tail h)
  exact fun i hi => h1.cell g_1 i hi

theorem weights_all_mem {H : Type} {P : Program} {e : TypeId} {d : DataW H} : ∀ {l : List (DataW H)}, d ∈ l → ∀ n ∈ d.weights P e, n ∈ DataW.weightsAll P e l
  | [], h, _, _ => by cases h
  | x :: r, h, n, hn => by
    simp only [DataW.weightsAll, List.mem_append]
    rcases List.mem_cons.1 h with rfl | h
    · exact .inl hn
    · exact .inr (weights_all_mem h n hn)
theorem one_op {H : Type} {enc : TypeId × Value → H} {W : World} {m : Nat} {v : Value} {d : DataW H} {p : List MemPlace} (h : DataW.trod enc Tryd.prog W 0 (fun _ => true) true m 27 [v] = some (d, p))
    (hb : ∀ n ∈ d.weights Tryd.prog 27, n ≤ reachBytes) :
    ∃ q : Option Addr × Nat × List Nat, v = .slice q.1 q.2.2.length q.2.1 ∧ SlI W W.heap.size .u8 q.1 q.2.2.length q.2.1 (nI q.2.2) ∧ (∀ x ∈ q.2.2, x < 256) ∧ q.2.2.length ≤ 140737488355328 := by
  rcases open_ints Tryd.underlying27 Tryd.underlying5 (by kernel_rfl) h with ⟨hcs, _⟩ | ⟨x, l, c, zs, hcs, _, hl, hm, hz, hx, hcell, hwz⟩
  · exact ⟨(none, 0, []), by simpa using hcs, SlI.nil _ _ _, by simp, by simp⟩
  · have hz' : zs.length = c := by simpa using hz
    obtain ⟨y, hy, hlt⟩ := nat_of (xs := zs.take l) (fun x hx => (by have := bounds_u8 (hwz x (List.mem_of_mem_take hx)); omega : 0 ≤ x ∧ x < 256))
    have hyl : y.length = l := by have := congrArg List.length hy; rw [nI_len, List.length_take] at this; omega
    have hs := SlI.of_row hl hm hz' hcell
    rw [hy] at hs
    refine ⟨(some x, c, y), by rw [hyl]; simpa using hcs, by rw [hyl]; exact hs, hlt, ?_⟩
    simp only [Prod.mk.injEq] at hx
    have h1 := hb ((lits .u8 (zs.take l)).length (α := DataW H) + (lits .u8 (zs.drop l)).length (α := DataW H)) (by
      rw [hx.1, DataW.weights, Tryd.underlying27]
      simp only [show Tryd.prog.bytesOf 5 = 1 by kernel_rfl, Nat.mul_one]
      exact List.mem_cons_self ..)
    have h2 : (lits (H := H) .u8 (zs.take l)).length = l := by simp [lits]; omega
    show y.length ≤ _
    have h3 : reachBytes ≤ 140737488355328 := by decide
    omega
theorem open_ops {H : Type} {enc : TypeId × Value → H} {W : World} {m : Nat} {A : Option Addr} {n c : Nat} {x : DataW H × List MemPlace} (h : DataW.trod enc Tryd.prog W 0 (fun _ => true) true m 22 [.slice A n c] = some x)
    (hb : ∀ k ∈ x.1.weights Tryd.prog 22, k ≤ reachBytes) :
    ∃ (K : Nat → Int) (a : Nat → Option Addr) (cs : Nat → Nat) (xs : Nat → List Nat), OpsI W W.heap.size A n c K a cs xs := by
  rcases Go.Deep.open_slice_pairs Tryd.underlying22 Tryd.underlying32 (by kernel_rfl) rfl rfl (by kernel_rfl) (by kernel_rfl) h with ⟨hcs, _⟩ | ⟨ad, len, cap, m', n', V0, V1, D0, D1, P0, P1, hcs, _, hl, hm, hmm, rfl, hi⟩
  · simp at hcs
    obtain ⟨rfl, rfl, rfl⟩ := hcs
    exact ⟨fun _ => 0, fun _ => none, fun _ => 0, fun _ => [], fun h => by omega, Nat.le_refl _, by unfold maxLen; omega, fun _ h => by omega, fun _ h => by omega, fun _ h => by omega, fun _ h => by omega⟩
  · simp at hcs
    obtain ⟨rfl, rfl, rfl⟩ := hcs
    have hmn : n ≤ m' := by rw [hmm]; simpa using hl
    have each : ∀ i, i < n → ∃ q : Int × Option Addr × Nat × List Nat, V0 i = .int .i64 q.1 ∧ (Lit.int .i64 q.1).wf = true ∧ V1 i = .slice q.2.1 q.2.2.2.length q.2.2.1 ∧ SlI W W.heap.size .u8 q.2.1 q.2.2.2.length q.2.2.1 (nI q.2.2.2) ∧ (∀ x ∈ q.2.2.2, x < 256) ∧ q.2.2.2.length ≤ 140737488355328 := by
      intro i hin
      obtain ⟨_, _, h0, h1⟩ := hi i (by omega)
      obtain ⟨k, hk, _, hkw⟩ := DataW.trod_int Tryd.underlying3 h0
      obtain ⟨q, q1, q2, q3, q4⟩ := one_op h1 (fun y hy => hb y (by
        rw [DataW.weights, Tryd.underlying22]
        refine List.mem_cons_of_mem _ (List.mem_append.2 (.inl (weights_all_mem (List.mem_map.2 ⟨i, List.mem_range.2 hin, rfl⟩) y ?_)))
        rw [DataW.weights, Tryd.underlying32]
        simp only [List.map_cons, List.map_nil, DataW.weightsEach, List.mem_append]
        exact .inr (.inl hy)))
      exact ⟨(k, q), by simpa using hk, hkw, q1, q2, q3, q4⟩
    obtain ⟨q, hq⟩ := Go.Deep.choose_lt each
    refine ⟨fun i => (q i).1, fun i => (q i).2.1, fun i => (q i).2.2.1, fun i => (q i).2.2.2, ⟨fun hn => ?_, hl, hm, fun i h => (hq i h).2.2.2.1, fun i h => (hq i h).2.2.2.2.1, fun i h => (hq i h).2.2.2.2.2, fun i h => (hq i h).2.1⟩⟩
    obtain ⟨g, off, spot⟩ := ad
    have h0 := (hi 0 (by omega)).1
    have hs : spot = none := by simpa [Addr.add] using World.cell?_spot h0
    subst hs
    refine ⟨g, off, rfl, ?_, fun i hin => ?_⟩
    · have := World.block_lt_of_cell? W _ h0
      simpa [Addr.add] using this
    · obtain ⟨c0, c1, _, _⟩ := hi i (by omega)
      rw [add_plain] at c0 c1
      refine ⟨c0.trans (by rw [(hq i hin).1]), ?_⟩
      rw [← (hq i hin).2.2.1, ← c1]
      rfl
theorem walk (A : Option Addr) (n c : Nat) (K : Nat → Int) (a : Nat → Option Addr) (cs : Nat → Nat) (xs : Nat → List Nat) (w : World) (t0 : Tab w 1 .u32 [1116352408, 1899447441, 3049323471, 3921009573, 961987163, 1508970993, 2453635748, 2870763221, 3624381080, 310598401, 607225278, 1426881987, 1925078388, 2162078206, 2614888103, 3248222580, 3835390401, 4022224774, 264347078, 604807628, 770255983, 1249150122, 1555081692, 1996064986, 2554220882, 2821834349, 2952996808, 3210313671, 3336571891, 3584528711, 113926993, 338241895, 666307205, 773529912, 1294757372, 1396182291, 1695183700, 1986661051, 2177026350, 2456956037, 2730485921, 2820302411, 3259730800, 3345764771, 3516065817, 3600352804, 4094571909, 275423344, 430227734, 506948616, 659060556, 883997877, 958139571, 1322822218, 1537002063, 1747873779, 1955562222, 2024104815, 2227730452, 2361852424, 2428436474, 2756734187, 3204031479, 3329325298]) (t1 : Tab w 0 .u32 [1779033703, 3144134277, 1013904242, 2773480762, 1359893119, 2600822924, 528734635, 1541459225]) (h : OpsI w w.heap.size A n c K a cs xs) :
    Calls Tryd.prog 3 #[.slice A n c] w fun e w' => e = .returned (.bool true) ∧ Below w.heap.size w w' :=
  law_plays A n c K a cs xs w t1 t0 h

set_option maxHeartbeats 4000000 in
set_option maxRecDepth 100000 in
theorem contract (H : Type) (enc : TypeId × Value → H) (W : World) (base : Nat) (args : Array Value) (ds gs : List (DataW H)) (before : List MemPlace)
    (hval0 : ∀ (j : Nat) t v, Tryd.f3.params[j]? = some t → args[j]? = some v → Value.okWide Tryd.prog W .any base t v)
    (hW : DataW.Whole enc Tryd.prog Tryd.f3.params.toList Rows.shaPlaysSpec.vars false W args.toList ds gs before) (hZ : (DataW.weightsEach Tryd.prog (Tryd.f3.params.toList ++ (OpenSpec.ofChange Rows.shaPlaysSpec).bare.plain.varTypes Tryd.prog) (ds ++ gs)).all (· ≤ reachBytes) = true) (hL : laidMet Tryd.prog Rows.shaPlaysRow.laid W) :
    Calls Tryd.prog 3 args W fun e W' => ∃ v, e = .returned v ∧ Rows.shaPlaysSpec.post enc Tryd.prog Tryd.f3 false true false false W args v W' := by
  have hval : ∀ (j : Nat) t v, Tryd.f3.params[j]? = some t → args[j]? = some v → Value.okWide Tryd.prog W .any base t v := hval0
  have hW' := hW
  obtain ⟨p, q, hA0, hV, rfl, hfz, hnd⟩ := hW
  have hA : DataW.TrodAll enc Tryd.prog W 0 (fun _ => true) true Tryd.f3.params.toList args.toList ds p := hA0
  rw [Tryd.params3] at hA hval
  rw [Tryd.params3] at hZ
  obtain ⟨v0, vs0, d0, ds0, p0, q0, hargs, rfl, rfl, h0, r0⟩ := trodAll_cons hA
  obtain ⟨rfl, rfl, rfl⟩ := trodAll_nil r0
  obtain rfl : args = #[v0] := by cases args; simp_all
  obtain ⟨rfl, rfl⟩ := trodVars_none hV
  obtain ⟨a0, n0, c0, rfl⟩ := okWide_slice Tryd.underlying22 (hval 0 22 v0 rfl rfl)
  have k0 := h0
  have lt0 : ∀ x ∈ p0, x.block < W.heap.size := by obtain ⟨m, hm⟩ := k0; exact DataW.trod_lt m _ _ _ hm
  obtain ⟨f0', hf0'⟩ := h0
  obtain ⟨K, a, cs, xs, hO⟩ := open_ops (x := (d0, p0)) (by simpa [Value.cells] using hf0') (fun k hk => of_decide_eq_true (List.all_eq_true.1 hZ k (DataW.weights_mem_each (j := 0) rfl rfl k hk)))
  clear hA0 hval0
  refine (walk a0 n0 c0 K a cs xs W (tab_0 hL) (tab_1 hL) hO).mono fun e W' ⟨he, bel⟩ => ?_
  subst he
  exact ⟨_, rfl, _, _, _, [], _, [], hW', trodAll_mk1 (shut_bool Tryd.underlying4 _), (trodAll_cons_mk (Below.trod laidOut (by kernel_rfl) (of_decide_eq_true (by kernel_rfl)) k0 bel lt0) trodAll_mk0), rfl, bel.frame _, fun h => by cases h⟩

/-- A world for the witness: the settled one, the listed tables as their initialisers lay them. -/
noncomputable def laidWorld (os : Os) : World :=
  { World.holding Tryd.prog os ⟨#[], #[], []⟩ with heap := (((World.holding Tryd.prog os ⟨#[], #[], []⟩).heap.modify 1 fun | .cells _ t frozen => .cells #[.int .u32 1116352408, .int .u32 1899447441, .int .u32 3049323471, .int .u32 3921009573, .int .u32 961987163, .int .u32 1508970993, .int .u32 2453635748, .int .u32 2870763221, .int .u32 3624381080, .int .u32 310598401, .int .u32 607225278, .int .u32 1426881987, .int .u32 1925078388, .int .u32 2162078206, .int .u32 2614888103, .int .u32 3248222580, .int .u32 3835390401, .int .u32 4022224774, .int .u32 264347078, .int .u32 604807628, .int .u32 770255983, .int .u32 1249150122, .int .u32 1555081692, .int .u32 1996064986, .int .u32 2554220882, .int .u32 2821834349, .int .u32 2952996808, .int .u32 3210313671, .int .u32 3336571891, .int .u32 3584528711, .int .u32 113926993, .int .u32 338241895, .int .u32 666307205, .int .u32 773529912, .int .u32 1294757372, .int .u32 1396182291, .int .u32 1695183700, .int .u32 1986661051, .int .u32 2177026350, .int .u32 2456956037, .int .u32 2730485921, .int .u32 2820302411, .int .u32 3259730800, .int .u32 3345764771, .int .u32 3516065817, .int .u32 3600352804, .int .u32 4094571909, .int .u32 275423344, .int .u32 430227734, .int .u32 506948616, .int .u32 659060556, .int .u32 883997877, .int .u32 958139571, .int .u32 1322822218, .int .u32 1537002063, .int .u32 1747873779, .int .u32 1955562222, .int .u32 2024104815, .int .u32 2227730452, .int .u32 2361852424, .int .u32 2428436474, .int .u32 2756734187, .int .u32 3204031479, .int .u32 3329325298] t frozen | o => o).modify 0 fun | .cells _ t frozen => .cells #[.int .u32 1779033703, .int .u32 3144134277, .int .u32 1013904242, .int .u32 2773480762, .int .u32 1359893119, .int .u32 2600822924, .int .u32 528734635, .int .u32 1541459225] t frozen | o => o) }
set_option maxRecDepth 100000 in
theorem laid_met (os : Os) : laidMet Tryd.prog Rows.shaPlaysRow.laid ((laidWorld os).forCall (fun _ _ => 0) ⟨#[], #[.slice none 0 0], []⟩).memory :=
  laidMet_of_run' 8 (by kernel_rfl) (by kernel_rfl)
set_option maxRecDepth 100000 in
theorem reads (os : Os) {H : Type} (enc : TypeId × Value → H) : ∃ places, DataW.whole enc Tryd.prog ((laidWorld os).forCall (fun _ _ => 0) ⟨#[], #[.slice none 0 0], []⟩).memory Tryd.f3.params.toList Rows.shaPlaysSpec.vars false (#[.slice none 0 0] : Array Value).toList 8 = some ([.nil], [], places) :=
  ⟨[], by kernel_rfl⟩
set_option maxRecDepth 100000 in
theorem lifted (os : Os) (started : os.Started) (H : Type) (enc : TypeId × Value → H) (F : Stop.Interp) :
    ReturnsInHanded {} Tryd.checked os 3 .any ((OpenSpec.ofChange Rows.shaPlaysSpec).preRow enc Tryd.prog Tryd.f3 Rows.shaPlaysRow.domain false Rows.shaPlaysRow.laid) (((OpenSpec.ofChange Rows.shaPlaysSpec).at F).post enc Tryd.prog Tryd.f3 false true false false) := by
  obtain ⟨places, hx⟩ := reads os enc
  refine returnsInHanded_of_row (C := Tryd.checked) (s := OpenSpec.ofChange Rows.shaPlaysSpec) own started (by kernel_rfl) Tryd.func3
    (witness_row_at (enc := enc) (C := Tryd.checked) false (laidWorld os) #[.slice none 0 0] rfl (by kernel_rfl) (by kernel_rfl) (by kernel_rfl)
      (OpenSpec.preRow_of_cond 8 hx (by kernel_rfl) (fun k hk => by cases hk) (by kernel_rfl) (laid_met os))) ?_
  intro W base args ds gs before hval hW _ _ hZ hL _ _
  exact contract H enc W base args ds gs before hval hW hZ hL
theorem said : Rows.ShaPlaysSaid :=
  OpenClaim.holds_of_cond 3 Tryd.f3 rfl rfl rfl rfl rfl rfl rfl ⟨rfl, rfl, rfl, rfl, rfl⟩ rfl rfl rfl rfl rfl (by kernel_rfl) Tryd.func3 (by kernel_rfl)
    (of_decide_eq_true (by kernel_rfl)) (by unfold Func.isWrapper; first | (rw [if_pos (by decide +kernel)]; kernel_rfl) | (rw [if_neg (by decide +kernel)]; exact ⟨rfl, rfl⟩))
    (fun os started H enc _ F => by rw [OpenClaim.pre_eq_preRow]; exact lifted os started H enc F)
theorem plain (f : FuncId) (fn : Func) (hf : Tryd.pinned.checked.prog.funcNamed "kilowatt/kilowattlaw04.ShaPlays" = some f) (hfn : Tryd.pinned.checked.prog.funcs[f]? = some fn) :
    false = Tryd.pinned.checked.prog.looks [] ∧ ∀ (j : Nat) t, fn.params[j]? = some t → Tryd.pinned.checked.prog.wantsStandIn t = false := by
  obtain rfl : f = 3 := Option.some.inj ((show Tryd.prog.funcNamed "kilowatt/kilowattlaw04.ShaPlays" = some 3 by kernel_rfl).symm.trans hf) |>.symm
  obtain rfl : fn = Tryd.f3 := (Option.some.inj (Tryd.func3.symm.trans hfn)).symm
  refine ⟨by kernel_rfl, fun j t ht => ?_⟩
  rw [Tryd.params3] at ht
  have hm : t ∈ ([22] : List Nat) := by simpa using Array.mem_of_getElem? ht
  have hall : (([22] : List Nat).all fun u => !Tryd.prog.wantsStandIn u) = true := by kernel_rfl
  exact (show Tryd.prog.wantsStandIn t = false by simpa using List.all_eq_true.1 hall t hm)
/-- The statement: the card. -/
theorem proved : Rows.ShaPlaysCardSaid :=
  Claim7.holds_tied_plain_at .later [] _ _ _ _ said (fun _ h => by cases h) (by kernel_rfl) (fun _ h => by cases h) shaPlays_row_tie rfl ⟨rfl, rfl⟩ (by kernel_rfl) rfl plain (by kernel_rfl)
#print axioms proved
end Go.Proofs.YtjkhkgdijnhdmaaDoor.shaPlays
