/- LedgerParts: the plain law: a meter's own entries make its totals and sum. No program in sight. -/
import Derived.Test.YtjcpgnachkhjaaaDoorLedSumsP
namespace Go.Proofs.YtjcpgnachkhjaaaDoor
open Go.RowKit
set_option linter.unusedVariables false
/-- Two books agree on a meter. -/
def Agree (m : Nat) (a o : Bk) : Prop := a.sumAt m = o.sumAt m ∧ ∀ k, k < 8 → a.totAt m k = o.totAt m k
theorem nextP_agree (x : Ent) (hx : x.ok) (a o : Bk) (h : Agree x.meter.toNat a o) : nextP a x = nextP o x := by
  unfold nextP
  by_cases he : okE x = false
  · rw [if_pos he, if_pos he]
  · have he' : okE x = true := by simpa using he
    obtain ⟨_, _, hb, _⟩ := okE_in x hx he'
    rw [h.1, h.2 _ (by omega)]
theorem addP_put (b : Bk) (x : Ent) : (addP b x).1 = (if (nextP b x).2.2 ≠ 0 then b else if x.kind = 5 then { b with many := b.many + 1, seals := b.seals + 1 } else b.puts x.meter.toNat x.band.toNat (nextP b x).1 (nextP b x).2.1 (b.ofm.set x.meter.toNat (b.ofAt x.meter.toNat + 1)) (b.many + 1)) := by
  unfold addP
  split
  · rfl
  · split <;> rfl
theorem Agree.own {K L : Int} {a o : Bk} (ha : a.ok K) (ho : o.ok L) (x : Ent) (hx : x.ok) (h : Agree x.meter.toNat a o) : Agree x.meter.toNat (addP a x).1 (addP o x).1 := by
  rw [addP_put a x, addP_put o x, nextP_agree x hx a o h]
  by_cases h1 : (nextP o x).2.2 ≠ 0
  · rw [if_pos h1, if_pos h1]; exact h
  · rw [if_neg h1, if_neg h1]
    obtain ⟨_, hm, hb, _⟩ := okE_in x hx (nextP_e o x (by omega))
    by_cases h5 : x.kind = 5
    · rw [if_pos h5, if_pos h5]; exact h
    · rw [if_neg h5, if_neg h5]
      refine ⟨?_, fun k hk => ?_⟩
      · rw [puts_sum ha _ _ (by omega), puts_sum ho _ _ (by omega), if_pos rfl, if_pos rfl]
      · rw [puts_tot ha _ _ (by omega) (by omega) _ _ _ _ _ k hk, puts_tot ho _ _ (by omega) (by omega) _ _ _ _ _ k hk, h.2 k hk]
theorem Agree.other {K : Int} {a o : Bk} (ha : a.ok K) (x : Ent) (hx : x.ok) (m : Nat) (hm' : (m : Int) ≠ x.meter ∨ x.kind = 5) (h : Agree m a o) : Agree m (addP a x).1 o := by
  rw [addP_put a x]
  by_cases h1 : (nextP a x).2.2 ≠ 0
  · rw [if_pos h1]; exact h
  · rw [if_neg h1]
    obtain ⟨_, hm, hb, _⟩ := okE_in x hx (nextP_e a x (by omega))
    by_cases h5 : x.kind = 5
    · rw [if_pos h5]; exact h
    · rw [if_neg h5]
      have hne : m ≠ x.meter.toNat := by
        rcases hm' with h | h
        · omega
        · exact absurd h h5
      refine ⟨?_, fun k hk => ?_⟩
      · rw [puts_sum ha _ _ (by omega), if_neg hne]; exact h.1
      · rw [puts_tot ha _ _ (by omega) (by omega) _ _ _ _ _ k hk, if_neg (by omega)]; exact h.2 k hk
/-- The entries of a meter, no seals. -/
def ownE (m : Int) (es : List Ent) : List Ent := es.filter fun e => decide (e.meter = m) && decide (e.kind ≠ 5)
theorem ownE_snoc (m : Int) (es : List Ent) (x : Ent) : ownE m (es ++ [x]) = ownE m es ++ (if x.meter = m ∧ x.kind ≠ 5 then [x] else []) := by
  unfold ownE
  rw [List.filter_append]
  by_cases h : x.meter = m ∧ x.kind ≠ 5
  · rw [if_pos h]; simp [h.1, h.2]
  · rw [if_neg h]
    simp
    exact fun h1 => Decidable.byContradiction fun h2 => h ⟨h1, h2⟩
theorem own_agree (m : Int) (h0 : 0 ≤ m) (es : List Ent) (hes : ∀ e ∈ es, e.ok) : ∀ n, n ≤ es.length → Agree m.toNat (runB (es.take n)) (runB (ownE m (es.take n))) := by
  intro n
  induction n with
  | zero => intro _; rw [List.take_zero]; exact ⟨rfl, fun _ _ => rfl⟩
  | succ n ih =>
    intro hn
    have hi := ih (by omega)
    have hx : es[n]? = some es[n] := List.getElem?_eq_getElem (by omega)
    have hxo : (es[n]).ok := hes _ (List.getElem_mem _)
    have ha := runB_ok (es.take n) (fun e he => hes e (List.mem_of_mem_take he))
    have ho := runB_ok (ownE m (es.take n)) (fun e he => hes e (List.mem_of_mem_take (List.mem_filter.1 he).1))
    rw [List.take_add_one, hx]
    show Agree m.toNat (runB (es.take n ++ [es[n]])) (runB (ownE m (es.take n ++ [es[n]])))
    rw [runB_snoc, ownE_snoc]
    by_cases h : es[n].meter = m ∧ es[n].kind ≠ 5
    · rw [if_pos h, runB_snoc]
      have hq := hi
      have key := Agree.own (x := es[n]) ha ho hxo
      rw [h.1] at key
      exact key hi
    · rw [if_neg h, List.append_nil]
      refine hi.other ha _ hxo _ ?_
      by_cases h1 : es[n].meter = m
      · exact .inr (Decidable.byContradiction fun h2 => h ⟨h1, h2⟩)
      · left; omega
end Go.Proofs.YtjcpgnachkhjaaaDoor
