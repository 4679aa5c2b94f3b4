/- Terms that came in, appended to nil: a row of the call's own. -/
import Derived.Test.YtfhpnkmhppfeiaaDoorA10
set_option linter.unusedVariables false
set_option linter.unusedSimpArgs false
namespace Go.Proofs.YtfhpnkmhppfeiaaDoor
open Go.RowKit Go.Proofs
/-- Cells that hold terms. -/
def CT (w : World) (D : Nat → Prop) (ts : List Tm) (cs : List Value) : Prop := ∀ j t, ts[j]? = some t → ∃ c0 c1 c2, cs[j * 3]? = some c0 ∧ cs[j * 3 + 1]? = some c1 ∧ cs[j * 3 + 2]? = some c2 ∧ TR w D t (.agg #[c0, c1, c2])
theorem CT.bel {w w' : World} {D : Nat → Prop} {ts : List Tm} {cs : List Value} (h : CT w D ts cs) (hb : Below w.heap.size w w') : CT w' D ts cs := fun j t hj => by
  obtain ⟨c0, c1, c2, h0, h1, h2, hT⟩ := h j t hj
  exact ⟨c0, c1, c2, h0, h1, h2, hT.bel hb⟩
theorem CT.grew {w w' : World} {S D : Nat → Prop} {ts : List Tm} {cs : List Value} (h : CT w D ts cs) (hg : Grew S w w') (hd : ∀ k, D k → ¬ S k) : CT w' D ts cs := fun j t hj => by
  obtain ⟨c0, c1, c2, h0, h1, h2, hT⟩ := h j t hj
  exact ⟨c0, c1, c2, h0, h1, h2, hT.grew hg hd⟩
theorem TR.past {w : World} {t : Tm} {v : Value} (h : TR w Any t v) : TR w (fun b => b < w.heap.size) t v := h.keep fun b _ hlt => ⟨rfl, hlt⟩
theorem TS.past {w : World} {ts : List Tm} {v : Value} (h : TS w Any ts v) : TS w (fun b => b < w.heap.size) ts v := h.keep fun b _ hlt => ⟨rfl, hlt⟩
theorem CT.snoc {w : World} {D : Nat → Prop} {ts : List Tm} {cs : List Value} {t : Tm} {c0 c1 c2 : Value} (h : CT w D ts cs) (hl : cs.length = ts.length * 3) (ht : TR w D t (.agg #[c0, c1, c2])) : CT w D (ts ++ [t]) (cs ++ [c0, c1, c2]) := by
  intro j b hj
  rcases Nat.lt_or_ge j ts.length with hlt | hge
  · rw [List.getElem?_append_left hlt] at hj
    obtain ⟨d0, d1, d2, e0, e1, e2, hT⟩ := h j b hj
    exact ⟨d0, d1, d2, by rw [List.getElem?_append_left (by omega)]; exact e0, by rw [List.getElem?_append_left (by omega)]; exact e1, by rw [List.getElem?_append_left (by omega)]; exact e2, hT⟩
  · have hj' : j = ts.length := by
      have := (List.getElem?_eq_some_iff.1 hj).1
      simp at this; omega
    subst hj'
    rw [List.getElem?_append_right (Nat.le_refl _), Nat.sub_self] at hj
    simp only [List.getElem?_cons_zero, Option.some.injEq] at hj
    subst hj
    have hx : ∀ i, (cs ++ [c0, c1, c2])[ts.length * 3 + i]? = [c0, c1, c2][i]? := fun i => by
      rw [List.getElem?_append_right (by omega)]; congr 1; omega
    exact ⟨c0, c1, c2, hx 0, hx 1, hx 2, ht⟩
theorem CT.ts {w : World} {D : Nat → Prop} {base : Nat} {ts : List Tm} {v : Value} {cs : List Value} (h : w.ownsRow base 25 3 v ts.length cs) (hr : CT w D ts cs) : TS w Any ts v := by
  have hlen := h.1
  rcases h.2 with ⟨rfl, hn⟩ | ⟨g, cap, cur, rfl, hb, hh, hc1, hc2, hcur, htake⟩
  · have : ts = [] := List.length_eq_zero_iff.1 hn
    subst this
    exact ⟨none, 0, fun _ => undef, rfl, Nat.le_refl 0, by omega, fun h => absurd h (by simp), fun j a h => by simp at h⟩
  · refine ⟨some ⟨g, 0, none⟩, cap, fun j => .agg #[(cs[j * 3]?).getD undef, (cs[j * 3 + 1]?).getD undef, (cs[j * 3 + 2]?).getD undef], rfl, hc1, by simpa [maxLen] using hc2, fun _ => ⟨g, 0, rfl, trivial, fun j hj => ?_⟩, fun j a ha => ?_⟩
    · obtain ⟨c0, c1, c2, e0, e1, e2, hT⟩ := hr j _ (List.getElem?_eq_getElem hj)
      have f := fun i u (hu : cs[i]? = some u) => h.cells (g := g) rfl i u hu
      simp only [addr_add] at f
      refine ⟨c0, c1, c2, by simp [e0, e1, e2], ?_, ?_, ?_⟩
      · rw [Nat.zero_add]; exact f _ _ e0
      · rw [Nat.zero_add]; exact f _ _ e1
      · rw [Nat.zero_add]; exact f _ _ e2
    · obtain ⟨c0, c1, c2, e0, e1, e2, hT⟩ := hr j a ha
      simp only [e0, e1, e2, Option.getD_some]
      exact hT.any
theorem run_append_none_none {w : World} (ty : TypeId) (c : Nat) (i : TypeInfo) (hi : Tryd.prog.info? 25 = some i) : (Builtin.append_ #[22, 22] ty #[.slice none 0 0, .slice none 0 c]).run Tryd.prog w = .ok (.slice none 0 0) w := by
  simp [Builtin.append_, run_underlying Tryd.underlying22, sizeOf, typeInfo, hi, Builtin.lenOf, Builtin.firstCells, loadCells, loadCellsFrom]
theorem addr_add' (g o j : Nat) : (⟨g, o, none⟩ : Addr).add j = ⟨g, o + j, none⟩ := by
  unfold Addr.add
  split
  · rename_i h0; subst h0; rfl
  · rfl
/-- append([]Term(nil), l...). -/
theorem wpList_append_terms {ops : Array Oper} {rest : List Oper} {o : Oper} {a : Act} {Q : Exit → Act → World → Prop} {w : World} (hgd : o.guard = none) (s x : Operand)
    (ho : o.op = .call { callee := .builtin .append, args := #[s, x], argTypes := #[22, 22] }) (base : Nat) (D : Nat → Prop) (L : List Tm) {X : Value} (hs : a.eval s = .slice none 0 0) (hx : a.eval x = X) (hT : TS w D L X) (hl : L.length ≤ 1000)
    (hbase : base ≤ w.heap.size) (h : ∀ v' w' cs, w'.ownsRow base 25 3 v' L.length cs → CT w' D L cs → w.grownBy w' none → wpList Tryd.prog ops Q rest (a.put o.dst v') w') : wpList Tryd.prog ops Q (o :: rest) a w := by
  obtain ⟨i0, hi, hz0, hz1, hz2⟩ := info_parts info25
  obtain ⟨A, c, V, rfl, hc1, hc2, hA, hr⟩ := hT
  by_cases hn : L.length = 0
  · have hL : L = [] := List.length_eq_zero_iff.1 hn
    subst hL
    cases A with
    | none =>
      refine wpList_plain hgd fun K hK => ?_
      unfold Oper.wp execOp
      have hr := run_append_none_none (w := w) o.type c i0 hi
      simp only [List.length_nil] at hx
      simp only [ho, resolve, invoke, builtin, Sem.run_bind, Sem.run_pure, Result.andThen_ok, List.map_toArray, List.map_cons, List.map_nil, hs, hx, hr]
      exact hK _ _ (h _ w [] (World.ownsRow_nil _ _ _ _) (fun j t hj => by simp at hj) ⟨rfl, rfl, rfl, Nat.le_refl _, fun _ _ _ => rfl⟩)
    | some ad =>
      refine wpList_append_own_at w hgd s x 22 ho base 25 i0 _ 3 40 Tryd.underlying22 hi hz0 hz1 hz2 rfl (by decide) (.slice none 0 0) 0 [] hs (World.ownsRow_nil _ _ _ _) ad 0 c [] hx rfl (by simp) (by simp) (by decide) (by decide) hbase ?_
      intro v' w' h1 h2 _ _
      exact h v' w' [] (by simpa using h1) (fun j t hj => by simp at hj) h2
  · obtain ⟨b, o', rfl, _, hcell⟩ := hA (by omega)
    have hc : ∀ i, i < L.length * 3 → ∃ u, w.cell? ⟨b, o' + i, none⟩ = some u ∧ u.oneCell' = true := by
      intro i hi'
      obtain ⟨c0, c1, c2, e, q0, q1, q2⟩ := hcell (i / 3) (by omega)
      have hT := hr (i / 3) _ (List.getElem?_eq_getElem (by omega))
      rw [e] at hT
      have h1 := one3 hT
      have : i = i / 3 * 3 ∨ i = i / 3 * 3 + 1 ∨ i = i / 3 * 3 + 2 := by omega
      rcases this with h | h | h
      · exact ⟨c0, by rw [h]; exact q0, h1 _ (by simp)⟩
      · exact ⟨c1, by rw [h, ← Nat.add_assoc]; exact q1, h1 _ (by simp)⟩
      · exact ⟨c2, by rw [h, ← Nat.add_assoc]; exact q2, h1 _ (by simp)⟩
    have hnews : ∀ j u, ((List.range (L.length * 3)).map fun i => (w.cell? ⟨b, o' + i, none⟩).getD undef)[j]? = some u → j < L.length * 3 ∧ w.cell? ⟨b, o' + j, none⟩ = some u ∧ u.oneCell' = true := by
      intro j u hj
      simp only [List.getElem?_map] at hj
      cases e : (List.range (L.length * 3))[j]? with
      | none => rw [e] at hj; cases hj
      | some k =>
        rw [e] at hj
        obtain ⟨h1, h2⟩ := List.getElem?_eq_some_iff.1 e
        simp only [List.getElem_range] at h2
        subst h2
        simp only [List.length_range] at h1
        obtain ⟨u', q, o1⟩ := hc j h1
        simp only [Option.map_some, q, Option.getD_some, Option.some.injEq] at hj
        subst hj
        exact ⟨h1, q, o1⟩
    have hget : ∀ j u, j < L.length * 3 → w.cell? ⟨b, o' + j, none⟩ = some u → ((List.range (L.length * 3)).map fun i => (w.cell? ⟨b, o' + i, none⟩).getD undef)[j]? = some u := by
      intro j u hj hu
      rw [List.getElem?_map, List.getElem?_range hj]
      simp [hu]
    refine wpList_append_own_at w hgd s x 22 ho base 25 i0 _ 3 40 Tryd.underlying22 hi hz0 hz1 hz2 rfl (by decide) (.slice none 0 0) 0 [] hs (World.ownsRow_nil _ _ _ _) ⟨b, o', none⟩ L.length c ((List.range (L.length * 3)).map fun i => (w.cell? ⟨b, o' + i, none⟩).getD undef) hx (by simp) ?_ ?_ (by unfold maxLen; omega) (by omega) hbase ?_
    · intro j u hj
      rw [addr_add']; exact (hnews j u hj).2.1
    · intro u hu
      obtain ⟨j, hj⟩ := List.getElem?_of_mem hu
      exact (hnews j u hj).2.2
    · intro v' w' h1 h2 _ _
      rw [Nat.zero_add, List.nil_append] at h1
      refine h v' w' _ h1 (CT.grew (w := w) (fun j t hj => ?_) (Grew.of_grownBy (S := None_) h2 (fun k hk => by cases hk)) fun _ _ h => h.elim) h2
      have hlt := (List.getElem?_eq_some_iff.1 hj).1
      obtain ⟨c0, c1, c2, e, q0, q1, q2⟩ := hcell j hlt
      have hT := hr j _ hj
      rw [e] at hT
      exact ⟨c0, c1, c2, hget _ _ (by omega) q0, hget _ _ (by omega) q1, hget _ _ (by omega) q2, hT⟩
end Go.Proofs.YtfhpnkmhppfeiaaDoor
