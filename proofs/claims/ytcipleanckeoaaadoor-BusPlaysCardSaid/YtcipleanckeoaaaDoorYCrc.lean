/- crc: bytes' bits, and their sum of 16. -/
import Derived.Test.YtcipleanckeoaaaDoorYPduBase
import Derived.Test.YtcipleanckeoaaaDoorYCommon
import Derived.Laws.BitsAllLaws
set_option maxRecDepth 100000
set_option maxHeartbeats 40000000
namespace Go.Proofs.YtcipleanckeoaaaDoor
open Go.RowKit Go.Shelf
attribute [local go_sem] Oper.semAt_some
set_option linter.unusedVariables false
def crcStep (n : Nat) (b : Fin 2) : Nat := if n % 2 = b.1 then n / 2 else (n / 2) ^^^ 40961
def crcF (n : Nat) (l : List (Fin 2)) : Nat := l.foldl crcStep n
def bitF (x : Int) (i : Nat) : Fin 2 := if x / 2 ^ i % 2 = 1 then 1 else 0
def byteF (x : Int) (k : Nat) : List (Fin 2) := (List.range k).map (bitF x)
def bitsF (b : List Int) : List (Fin 2) := b.flatMap fun x => byteF x 8
theorem crcStep_lt (n : Nat) (b : Fin 2) (h : n < 65536) : crcStep n b < 65536 := by
 unfold crcStep
 split
 ·omega
 ·exact Nat.xor_lt_two_pow (n := 16) (by omega) (by decide)
theorem crcF_snoc (n : Nat) (l : List (Fin 2)) (b : Fin 2) : crcF n (l ++ [b]) = crcStep (crcF n l) b := by
 unfold crcF; rw [List.foldl_append]; rfl
theorem crcF_lt (l : List (Fin 2)) : ∀ n, n < 65536 → crcF n l < 65536 := by
 induction l with
 | nil => exact fun n h => h
 | cons b l ih => exact fun n h => ih _ (crcStep_lt n b h)
theorem byteF_snoc (x : Int) (k : Nat) : byteF x (k + 1) = byteF x k ++ [bitF x k] := by
 unfold byteF; rw [List.range_succ, List.map_append]; rfl
theorem byteF_len (x : Int) (k : Nat) : (byteF x k).length = k := by simp [byteF]
theorem bitsF_len (b : List Int) : (bitsF b).length = 8 * b.length := by
 induction b with
 | nil => rfl
 | cons a l ih => unfold bitsF at *; rw [List.flatMap_cons, List.length_append, byteF_len, ih, List.length_cons]; omega
theorem bitsF_snoc (b : List Int) (x : Int) : bitsF (b ++ [x]) = bitsF b ++ byteF x 8 := by simp [bitsF]
theorem bitsF_app (a b : List Int) : bitsF (a ++ b) = bitsF a ++ bitsF b := by simp [bitsF]
def cbitV (x : Fin 2) : Array Value := #[.int .u8 (x.1 : Int)]
theorem cand1_all : ∀ y : Fin 256, Go.bits BinOp.and IntKind.u8 (y.1 : Int) 1 = (y.1 : Int) % 2 := by decide +kernel
theorem cshr_small (x : Int) (r : Nat) (h0 : 0 ≤ x) (h : x < 256) : 0 ≤ x / (2 : Int) ^ r ∧ x / (2 : Int) ^ r < 256 := by
 have hp : (0 : Int) < 2 ^ r := Int.pow_pos (by omega)
 exact ⟨Int.ediv_nonneg h0 (by omega), Int.lt_of_le_of_lt (Int.ediv_le_self _ h0) h⟩
theorem bitF_is (x : Int) (i : Nat) (h0 : 0 ≤ x) (h : x < 256) : ((bitF x i).1 : Int) = Go.bits BinOp.and IntKind.u8 (x / (2 : Int) ^ i) 1 := by
 obtain ⟨a, b⟩ := cshr_small x i h0 h
 unfold bitF
 generalize x / (2 : Int) ^ i = y at a b
 obtain ⟨n, rfl⟩ := Int.eq_ofNat_of_zero_le a
 rw [cand1_all ⟨n, by omega⟩]
 split
 ·rename_i hh; simpa using hh.symm
 ·rename_i hh; simp; omega
theorem crcbits1_in (F : Fence) (n : Nat) (hF : F.fn 160) (hro : F.round = none) (hn : 1 ≤ n) (l Bs n₀ : Nat) (A : Option Addr) (len cap : Nat) (zs : List Int) (hreach : len ≤ 1000000) (hl : zs.length = len) (hbs : ∀ x ∈ zs, 0 ≤ x ∧ x < 256) (J Jx : List (Fin 2) → World → Prop)
  (hY : ∀ pre x W, J pre W → pre.length < 8 * len → YieldAt F (n - 1) Tryd.prog l (cbitV x) W fun e W' =>
   (e = .returned (.bool true) ∧ J (pre ++ [x]) W' ∧ Below n₀ W W') ∨ (e = .returned (.bool false) ∧ Jx (pre ++ [x]) W'))
  (W : World) (hBs : W.cell? ⟨Bs, 0, none⟩ = some (.slice A len cap)) (hc : RdI W n₀ .u8 A zs) (h0 : J [] W) :
  CallsIn F n Tryd.prog 160 #[.func (.yield l) #[] #[], .pointer (some ⟨Bs, 0, none⟩)] W fun e W' => (∃ v, e = .returned v) ∧
   ((∃ ys, ys = bitsF zs ∧ J ys W') ∨ (∃ pre, pre <+: bitsF zs ∧ Jx pre W')) := by
 have HC := Lib.hid hc
 have HL := Lib.hid hl
 have HB := Lib.hid hbs
 clear hc hl hbs
 refine callsIn_of_wp Tryd.func160 rfl hF ?_ hro
 simp only [Tryd.ntmps160, List.size_toArray, List.length_cons, List.length_nil, Nat.reduceAdd, Nat.reduceSub, Array.replicate_succ, Array.replicate_zero, List.push_toArray, List.append_toArray, List.nil_append, List.cons_append]
 gi_wp2
 gi_loopw [8] (fun i wr => ∃ k : Nat, k ≤ len ∧ i = .int .i64 k ∧ J (bitsF (zs.take k)) wr ∧ Below n₀ W wr)
  (fun i _ => len - (intOf i).toNat)
 case atStart => exact ⟨0, Nat.zero_le _, rfl, by simpa [bitsF] using h0, Below.refl _ _⟩
 case round =>
  obtain ⟨k, hk, rfl, hJs, hnx⟩ := hrel
  by_cases hlt : k < len
  ·obtain ⟨g, off, x, rfl, _, hx, hcx⟩ := (HC.out.below hnx).at_ (i := k) (by rw [HL.out]; exact hlt)
   obtain ⟨hx0, hx1⟩ := HB.out x (List.mem_of_getElem? hx)
   have HX := Lib.hid (show bitsF (zs.take (k + 1)) = bitsF (zs.take k) ++ byteF x 8 by rw [List.take_add_one, hx, Option.toList_some, bitsF_snoc])
   have HPL := Lib.hid (show (bitsF (zs.take k)).length = 8 * k by rw [bitsF_len, List.length_take, HL.out]; omega)
   have HPF := Lib.hid (show bitsF (zs.take k) ++ byteF x 8 <+: bitsF zs by
    rw [← HX.out]
    exact ⟨bitsF (zs.drop (k + 1)), by rw [← bitsF_app, List.take_append_drop]⟩)
   have HBS := Lib.hid (fun i => byteF_snoc x i)
   clear hx
   gi_wp2
   gi_loopw [12] (fun i wr => ∃ m : Nat, m ≤ 8 ∧ i = .int .i64 m ∧ J (bitsF (zs.take k) ++ byteF x m) wr ∧ Below n₀ W wr)
    (fun i _ => 8 - (intOf i).toNat)
   case atStart => exact ⟨0, Nat.zero_le _, rfl, by simpa [byteF] using hJs, hnx⟩
   case round =>
    obtain ⟨m, hm, rfl, hJm, hnm⟩ := hrel
    by_cases hm8 : m < 8
    ·obtain ⟨fn, tmps, assign, body, hy, hR⟩ := hY _ (bitF x m) wr hJm (by rw [List.length_append, HPL.out, byteF_len]; omega)
     unfold cbitV at hy
     rw [bitF_is x m hx0 hx1] at hy
     have hm8I : (m : Int) < 8 := by omega
     gi_wp2
     refine hR.mono ?_
     rintro e W3 (⟨rfl, hJ3, hk3⟩ | ⟨rfl, hJx3⟩)
     ·gi_wp2
      go_roundw
      case rel => exact ⟨m + 1, by omega, by simp, by rw [HBS.out, ← List.append_assoc]; exact hJ3, hnm.trans hk3⟩
      case measure => simp [intOf]; omega
     ·gi_wp2
      refine bodyPost_ret (results_none rfl _ _ _) rfl ?_
      refine ⟨⟨_, rfl⟩, .inr ⟨_, ?_, hJx3⟩⟩
      refine List.IsPrefix.trans ?_ HPF.out
      rw [List.append_assoc, ← HBS.out]
      refine List.prefix_append_right_inj _ |>.2 ?_
      refine ⟨(List.range (7 - m)).map (fun i => bitF x (m + 1 + i)), ?_⟩
      have h8 : List.range 8 = List.range (m + 1) ++ (List.range (7 - m)).map (m + 1 + ·) := by rw [← List.range_add, show m + 1 + (7 - m) = 8 by omega]
      unfold byteF
      rw [h8, List.map_append, List.map_map]
      rfl
    ·obtain rfl : m = 8 := by omega
     gi_wp2
     go_roundw
     case rel => exact ⟨k + 1, by omega, by simp, by rw [HX.out]; exact hJm, hnm⟩
     case measure => simp [intOf]; omega
  ·obtain rfl : k = len := by omega
   gi_wp2
   go_end0
   exact ⟨⟨_, rfl⟩, .inl ⟨_, by rw [List.take_of_length_le (by rw [HL.out]; omega)], hJs⟩⟩
theorem crcbits_in (F : Fence) (n : Nat) (hF : F.fn 159) (hro : F.round = none) (A : Option Addr) (len cap : Nat) (w : World) :
  CallsIn F n Tryd.prog 159 #[.slice A len cap] w fun e w' => e = .returned (.func (.func 160) #[] #[.pointer (some ⟨w.heap.size, 0, none⟩)]) ∧ w' = w.alloc (.cells #[.slice A len cap] 22) := by
 refine callsIn_of_wp Tryd.func159 rfl hF ?_ hro
 simp only [Tryd.ntmps159, List.size_toArray, List.length_cons, List.length_nil, Nat.reduceAdd, Nat.reduceSub, Array.replicate_succ, Array.replicate_zero, List.push_toArray, List.append_toArray, List.nil_append, List.cons_append]
 gi_wp2
 go_ret
 exact ⟨rfl, rfl⟩
theorem crcbits_stops (F : Fence) (n : Nat) (hF : F.fn 160) (hro : F.round = none) (hn : 1 ≤ n) (Bs n₀ : Nat) (A : Option Addr) (len cap : Nat) (zs : List Int) (hreach : len ≤ 1000000) (hl : zs.length = len) (hbs : ∀ x ∈ zs, 0 ≤ x ∧ x < 256) (w : World) (hBs : Bs < w.heap.size) (hn₀ : n₀ ≤ w.heap.size)
  (hc : w.cell? ⟨Bs, 0, none⟩ = some (.slice A len cap)) (hR : RdI w n₀ .u8 A zs) :
  SeqStopsK F n Tryd.prog 160 #[.pointer (some ⟨Bs, 0, none⟩)] cbitV (Below n₀) (fun ys => ys = bitsF zs) (fun pre => pre <+: bitsF zs) (8 * len) w := fun l J Jx W hW _ _ hY h0 =>
 crcbits1_in F n hF hro hn l Bs n₀ A len cap zs hreach hl hbs J Jx hY W ((hW.cell (p := ⟨Bs, 0, none⟩) hBs).trans hc) (hR.below (hW.mono hn₀)) h0
theorem heldF_own {β : Type} {n B : Nat} {t : TypeId} {f : β → Array Value} : OwnFrom n (fun (s : β) W => Held W B t (f s)) := fun _ X Y row hs hg hr =>
 hs.kept hg (fun e => by
  obtain ⟨_, o, ho, hc⟩ := hr B e.symm
  rw [show X.heap[B]? = _ from hs] at ho; cases ho; cases hc)
def CrcI (w : World) (x0 : Nat) (pre : List (Fin 2)) (W : World) : Prop := Held W w.heap.size 45 #[.int .u16 ((crcF x0 pre : Nat) : Int)] ∧ Held W (w.heap.size + 1) 45 #[.int .u16 40961] ∧ Below w.heap.size w W
theorem crcsum_in (F : Fence) (n : Nat) (h1F : F.fn 155) (h2F : F.fn 159) (h3F : F.fn 160) (hro : F.round = none) (hn : 3 ≤ n) (x0 : Nat) (hx0 : x0 < 65536) (A : Option Addr) (len cap : Nat) (zs : List Int) (hreach : len ≤ 1000000) (hl : zs.length = len) (hbs : ∀ x ∈ zs, 0 ≤ x ∧ x < 256) (w : World) (hR : RdI w w.heap.size .u8 A zs) :
  CallsIn F n Tryd.prog 155 #[.int .u16 (x0 : Int), .int .u16 40961, .slice A len cap] w fun e W' => e = .returned (.int .u16 ((crcF x0 (bitsF zs) : Nat) : Int)) ∧ Below w.heap.size w W' := by
 have h1 : 1 ≤ n := by omega
 have HR := Lib.hid hR
 have HL := Lib.hid hl
 have HBS := Lib.hid hbs
 clear hR hl hbs
 refine callsIn_of_wp_marks Tryd.func155 rfl h1F ?_ hro
 simp only [Tryd.ntmps155, List.size_toArray, List.length_cons, List.length_nil, Nat.reduceAdd, Nat.reduceSub, Array.replicate_succ, Array.replicate_zero, List.push_toArray, List.append_toArray, List.nil_append, List.cons_append]
 gi_wp2
 refine wpIn_scope ?_
 gi_wp2
 refine wpIn_label ?_
 gi_wp2_with (gi_at_call 159; refine (crcbits_in F (n - 1) h2F hro A len cap _).mono ?_; rintro e w' ⟨rfl, rfl⟩)
 obtain ⟨W0, hW0⟩ : ∃ W0, ((w.alloc (.cells #[.int .u16 (x0 : Int)] 45)).alloc (.cells #[.int .u16 40961] 45)).alloc (.cells #[.slice A len cap] 22) = W0 := ⟨_, rfl⟩
 rw [hW0]
 have hS0 : W0.heap.size = w.heap.size + 3 := by rw [← hW0]; simp
 have bN : Held W0 w.heap.size 45 #[.int .u16 (x0 : Int)] := by rw [← hW0]; exact ((Held.new w _ _).alloc _).alloc _
 have bP : Held W0 (w.heap.size + 1) 45 #[.int .u16 40961] := by rw [← hW0]; have := Held.new (w.alloc (.cells #[.int .u16 (x0 : Int)] 45)) 45 #[.int .u16 40961]; rw [World.size_alloc] at this; exact this.alloc _
 have bB : Held W0 (w.heap.size + 2) 22 #[.slice A len cap] := by rw [← hW0]; have := Held.new ((w.alloc (.cells #[.int .u16 (x0 : Int)] 45)).alloc (.cells #[.int .u16 40961] 45)) 22 #[.slice A len cap]; simpa using this
 have hB0 : Below w.heap.size w W0 := by rw [← hW0]; exact ((((Below.refl _ w).alloc (Nat.le_refl _) _).alloc (by simp) _).alloc (by simp; omega) _)
 clear hW0
 refine wpIn_rangeFunc_ownG_of_H hro h1 (gf := 160) (lb := #[.pointer (some ⟨w.heap.size + 2, 0, none⟩)]) rfl h3F (enters_of Tryd.func160 (by kernel_rfl) rfl)
  (crcbits_stops F (n - 1) h3F hro (by omega) (w.heap.size + 2) w.heap.size A len cap zs hreach HL.out HBS.out W0 (by omega) (by omega) (bB.cell 0) (HR.out.below hB0)) belowK_t (belowK_b (by omega)) (Below.refl _ _) (fun _ => rfl)
  (CrcI w x0) (fun _ _ _ => False)
  (OwnFrom.and heldF_own (OwnFrom.and held_ownFrom (ownFrom_below (Nat.le_refl _) (by omega))))
  (fun _ _ _ _ _ hs _ _ => hs) ⟨bN, bP, hB0⟩
  (fun x => { tmps := #[.int .u16 (x0 : Int), .int .u16 40961, .slice A len cap, .pointer (some ⟨w.heap.size, 0, none⟩), .pointer (some ⟨w.heap.size + 1, 0, none⟩), undef, .int .u16 0, .int .u8 (x.1 : Int), undef, .slice A len cap,
   .func (.func 160) #[] #[.pointer (some ⟨w.heap.size + 2, 0, none⟩)], .int .u8 (x.1 : Int), undef, undef, undef, undef, undef, undef, undef, undef, undef, undef, undef, undef, undef], defers := [] })
  ?assign ?body ?done ?stop (fun _ => Below.refl _ _)
 case assign =>
  intro l x W K hK
  unfold cbitV
  gi_wp2
  exact hK
 case body =>
  rintro l pre x W ⟨hN, hP, hB⟩ hlt
  have c0 := hN.cell 0
  have c1 := hP.cell 0
  simp only [List.getElem?_toArray, List.getElem?_cons_zero] at c0 c1
  have f0 := hN.frozen 0
  have hsz := hP.lt
  have hbelow := hB.size
  have hv := crcF_lt pre x0 hx0
  have HSN := Lib.hid (crcF_snoc x0 pre x)
  obtain ⟨v, hvv⟩ : ∃ v, crcF x0 pre = v := ⟨_, rfl⟩
  rw [hvv] at c0 HSN hv
  have HN := Lib.hid hN
  have HP := Lib.hid hP
  have HB := Lib.hid hB
  clear hN hP hB hvv hlt
  obtain ⟨y, hy⟩ : ∃ y : Nat, x.1 = y := ⟨_, rfl⟩
  have hy2 : y < 2 := by have := x.2; omega
  rw [hy]
  obtain ⟨a, ha⟩ : ∃ a, v % 2 = a := ⟨_, rfl⟩
  obtain ⟨d, hd⟩ : ∃ d, a ^^^ y = d := ⟨_, rfl⟩
  obtain ⟨h, hh⟩ : ∃ h, v / 2 = h := ⟨_, rfl⟩
  obtain ⟨g, hg⟩ : ∃ g, h ^^^ 40961 = g := ⟨_, rfl⟩
  have e1 : bits BinOp.and IntKind.u16 (v : Int) 1 = (a : Int) := by
   have := u16_and_nat v 1 hv (by omega)
   rw [nat_mask1, ha] at this
   exact this
  have e2 : bits BinOp.xor IntKind.u16 (a : Int) (y : Int) = (d : Int) := by rw [← hd]; exact u16_xor_nat _ _ (by omega) (by omega)
  have e3 : bits BinOp.xor IntKind.u16 (h : Int) 40961 = (g : Int) := by rw [← hg]; exact u16_xor_nat _ 40961 (by omega) (by omega)
  have e4 : (v : Int) / 2 = (h : Int) := by omega
  have hst : Hid (crcStep v x = if d = 0 then h else g) := Lib.hid (by
   unfold crcStep
   rw [hy, ha, hh, ← hd, ← hg]
   have ha2 : a = 0 ∨ a = 1 := by omega
   have hy2 : y = 0 ∨ y = 1 := by omega
   rcases ha2 with rfl | rfl <;> rcases hy2 with rfl | rfl <;> simp)
  have hh2 : h < 65536 := by omega
  clear ha hd hh hg hy
  by_cases hd0 : d = 0
  ·subst hd0
   gi_wp2
   refine ⟨(KeepsOthers.setCell _ _ _).from _, (Below.refl _ _).setCell (p := ⟨w.heap.size, 0, none⟩) (Nat.le_refl _) _, ?_, HP.out.far (by simp) _, HB.out.setCell (p := ⟨w.heap.size, 0, none⟩) (Nat.le_refl _) _⟩
   rw [HSN.out, hst.out, if_pos trivial]
   have := HN.out.set 0 (.int .u16 (h : Int))
   simpa using this
  ·have hd0b : ((d : Int) == 0) = false := by simp; omega
   gi_wp2
   refine ⟨((KeepsOthers.setCell _ _ _).trans (KeepsOthers.setCell _ _ _)).from _, ((Below.refl _ _).setCell (p := ⟨w.heap.size, 0, none⟩) (Nat.le_refl _) _).setCell (p := ⟨w.heap.size, 0, none⟩) (Nat.le_refl _) _, ?_, (HP.out.far (by simp) _).far (by simp) _, (HB.out.setCell (p := ⟨w.heap.size, 0, none⟩) (Nat.le_refl _) _).setCell (p := ⟨w.heap.size, 0, none⟩) (Nat.le_refl _) _⟩
   rw [HSN.out, hst.out, if_neg hd0]
   have := (HN.out.set 0 (.int .u16 (h : Int))).set 0 (.int .u16 (g : Int))
   simpa using this
 case done =>
  rintro D ys W hD rfl ⟨hN, hP, hB⟩ hK
  have hc := hN.cell 0
  simp only [List.getElem?_toArray, List.getElem?_cons_zero] at hc
  gi_wp2
  refine ⟨by simp, .inl ⟨_, _, rfl, run_takeDeferred hK, ?_⟩⟩
  exact ⟨_, results_tmp rfl _ _ _, rfl, hB.trans (belowK_b (w := w) (Nat.le_refl _) W D _ _ (by omega) hK rfl rfl)⟩
 case stop =>
  rintro D c pre W _ _ h _
  exact h.elim
theorem crcsum_any (x0 : Nat) (hx0 : x0 < 65536) (A : Option Addr) (len cap : Nat) (zs : List Int) (hreach : len ≤ 1000000) (hl : zs.length = len) (hbs : ∀ x ∈ zs, 0 ≤ x ∧ x < 256) (w : World) (hR : RdI w w.heap.size .u8 A zs) :
  Calls Tryd.prog 155 #[.int .u16 (x0 : Int), .int .u16 40961, .slice A len cap] w fun e W' => e = .returned (.int .u16 ((crcF x0 (bitsF zs) : Nat) : Int)) ∧ Below w.heap.size w W' :=
 (callsIn_wide (n := 5)).1 (crcsum_in Fence.wide 5 trivial trivial trivial rfl (by omega) x0 hx0 A len cap zs hreach hl hbs w hR)
def crcL (zs : List Int) : Nat := crcF 65535 (bitsF zs)
theorem crcL_lt (zs : List Int) : crcL zs < 65536 := crcF_lt _ _ (by omega)
theorem crcmore_any (A : Option Addr) (len cap : Nat) (zs : List Int) (hreach : len ≤ 1000000) (hl : zs.length = len) (hbs : ∀ x ∈ zs, 0 ≤ x ∧ x < 256) (w : World) (hR : RdI w w.heap.size .u8 A zs) :
  Calls Tryd.prog 134 #[.int .u16 65535, .slice A len cap] w fun e W' => e = .returned (.int .u16 (crcL zs : Int)) ∧ Below w.heap.size w W' := by
 have H := Lib.hid (crcsum_any 65535 (by omega) A len cap zs hreach hl hbs w hR)
 clear hR
 go_in
 go_wp2_with ((go_at_call 155; refine H.out.mono ?_; rintro e w' ⟨rfl, hb⟩))
 go_ret
 exact ⟨rfl, hb⟩
theorem crc16_any (A : Option Addr) (len cap : Nat) (zs : List Int) (hreach : len ≤ 1000000) (hl : zs.length = len) (hbs : ∀ x ∈ zs, 0 ≤ x ∧ x < 256) (w : World) (hR : RdI w w.heap.size .u8 A zs) :
  Calls Tryd.prog 102 #[.slice A len cap] w fun e W' => e = .returned (.int .u16 (crcL zs : Int)) ∧ Below w.heap.size w W' := by
 have H := Lib.hid (crcmore_any A len cap zs hreach hl hbs w hR)
 clear hR
 go_in
 go_wp2_with ((go_at_call 134; refine H.out.mono ?_; rintro e w' ⟨rfl, hb⟩))
 go_ret
 exact ⟨rfl, hb⟩
end Go.Proofs.YtcipleanckeoaaaDoor
