/- Rows of terms that a call owns and appends to. -/
import Derived.Test.YtfhpnkmhppfeiaaDoorB2
import Derived.Test.YtfhpnkmhppfeiaaDoorPost
set_option linter.unusedVariables false
set_option linter.unusedSimpArgs false
namespace Go.Proofs.YtfhpnkmhppfeiaaDoor
open Go.RowKit Go.Proofs

/-- New blocks, and writes to blocks of S alone. -/
structure Grew (S : Nat → Prop) (w w' : World) : Prop where
  os : w'.os = w.os
  tape : w'.tape = w.tape
  output : w'.output = w.output
  size : w.heap.size ≤ w'.heap.size
  block : ∀ k, k < w.heap.size → ¬ S k → w'.heap[k]? = w.heap[k]?
theorem Grew.refl (S : Nat → Prop) (w : World) : Grew S w w := ⟨rfl, rfl, rfl, Nat.le_refl _, fun _ _ _ => rfl⟩
theorem Grew.trans {S : Nat → Prop} {a b c : World} (h : Grew S a b) (k : Grew S b c) : Grew S a c :=
  ⟨k.os.trans h.os, k.tape.trans h.tape, k.output.trans h.output, Nat.le_trans h.size k.size, fun i hi hs => (k.block i (Nat.lt_of_lt_of_le hi h.size) hs).trans (h.block i hi hs)⟩
theorem Grew.mono {S S' : Nat → Prop} {a b : World} (h : Grew S a b) (hs : ∀ k, k < a.heap.size → S k → S' k) : Grew S' a b := ⟨h.os, h.tape, h.output, h.size, fun i hi hn => h.block i hi fun hh => hn (hs i hi hh)⟩
theorem Grew.of_below {S : Nat → Prop} {a b : World} (h : Below a.heap.size a b) : Grew S a b := ⟨h.os, h.tape, h.output, h.size, fun i hi _ => h.block i hi⟩
theorem Grew.of_grownBy {S : Nat → Prop} {a b : World} {row : Option Nat} (h : a.grownBy b row) (hs : ∀ k, row = some k → S k) : Grew S a b := ⟨h.os, h.tape, h.output, h.size, fun i hi hn => h.block i hi fun e => hn (hs i e.symm)⟩
theorem Grew.below {S : Nat → Prop} {a b : World} (h : Grew S a b) {n : Nat} (hn : n ≤ a.heap.size) (hs : ∀ k, S k → n ≤ k) : Below n a b := ⟨h.os, h.tape, h.output, h.size, fun i hi => h.block i (by omega) fun hh => by have := hs i hh; omega⟩
def None_ : Nat → Prop := fun _ => False
theorem Grew.all {a b : World} (h : Grew None_ a b) : Below a.heap.size a b := h.below (Nat.le_refl _) fun _ h => h.elim
theorem Grew.any {S : Nat → Prop} {a b : World} (h : Grew None_ a b) : Grew S a b := h.mono fun _ _ h => h.elim
theorem Grew.drew (S : Nat → Prop) (w : World) : Grew S w w.drew := Grew.of_below (Below.refl _ _).drew
theorem Grew.alloc (S : Nat → Prop) (w : World) (o : Obj) : Grew S w (w.alloc o) := Grew.of_below (bself w o)
theorem Grew.cell {S : Nat → Prop} {a b : World} (h : Grew S a b) {p : Addr} {v : Value} (hc : a.cell? p = some v) (hs : ¬ S p.block) : b.cell? p = some v :=
  (World.cell?_of_block (w := a) (h.block p.block (World.block_lt_of_cell? a _ hc) hs)).trans hc
theorem Grew.heap {S : Nat → Prop} {a b : World} (h : Grew S a b) {k : Nat} {o : Obj} (hc : a.heap[k]? = some o) (hs : ¬ S k) : b.heap[k]? = some o := (h.block k (Array.getElem?_eq_some_iff.1 hc).1 hs).trans hc
theorem TR.grew {S D : Nat → Prop} {a b : World} {t : Tm} {v : Value} (h : TR a D t v) (hg : Grew S a b) (hd : ∀ k, D k → ¬ S k) : TR b D t v := h.keep fun k hD hlt => ⟨hg.block k hlt (hd k hD), hD⟩
theorem TR.mono {D D' : Nat → Prop} {a : World} {t : Tm} {v : Value} (h : TR a D t v) (hd : ∀ k, D k → k < a.heap.size → D' k) : TR a D' t v := h.keep fun k hD hlt => ⟨rfl, hd k hD hlt⟩
theorem TS.mono {D D' : Nat → Prop} {a : World} {t : List Tm} {v : Value} (h : TS a D t v) (hd : ∀ k, D k → k < a.heap.size → D' k) : TS a D' t v := h.keep fun k hD hlt => ⟨rfl, hd k hD hlt⟩
theorem TS.grew {S D : Nat → Prop} {a b : World} {t : List Tm} {v : Value} (h : TS a D t v) (hg : Grew S a b) (hd : ∀ k, D k → ¬ S k) : TS b D t v := h.keep fun k hD hlt => ⟨hg.block k hlt (hd k hD), hD⟩

/-- A row of terms of the call's own: the terms' own memory is not in the row. -/
def OTS (w : World) (base : Nat) (ts : List Tm) (v : Value) : Prop :=
  ∃ cs, w.ownsRow base 25 3 v ts.length cs ∧ ∀ j a, ts[j]? = some a → ∃ c0 c1 c2, cs[j * 3]? = some c0 ∧ cs[j * 3 + 1]? = some c1 ∧ cs[j * 3 + 2]? = some c2 ∧
    TR w (fun b => base ≤ b ∧ v.ownBlock ≠ some b) a (.agg #[c0, c1, c2])
theorem OTS.nil (w : World) (base : Nat) : OTS w base [] (.slice none 0 0) := ⟨[], World.ownsRow_nil _ _ _ _, fun j a h => by simp at h⟩
theorem OTS.form {w : World} {base : Nat} {ts : List Tm} {v : Value} (h : OTS w base ts v) : ∃ A c, v = .slice A ts.length c ∧ ts.length ≤ c ∧ c ≤ 9223372036854775807 := by
  obtain ⟨cs, h, _⟩ := h; exact own_form h
theorem OTS.base {w : World} {base : Nat} {ts : List Tm} {v : Value} (h : OTS w base ts v) : ∀ k, v.ownBlock = some k → base ≤ k ∧ k < w.heap.size := by
  obtain ⟨cs, h, _⟩ := h; exact h.lt
theorem OTS.bel {w w' : World} {base : Nat} {ts : List Tm} {v : Value} (h : OTS w base ts v) (hb : Below w.heap.size w w') : OTS w' base ts v := by
  obtain ⟨cs, h, hr⟩ := h
  refine ⟨cs, own_bel h hb, fun j a ha => ?_⟩
  obtain ⟨c0, c1, c2, e0, e1, e2, hT⟩ := hr j a ha
  exact ⟨c0, c1, c2, e0, e1, e2, hT.bel hb⟩
theorem addr_add (g j : Nat) : (⟨g, 0, none⟩ : Addr).add j = ⟨g, j, none⟩ := by
  unfold Addr.add
  split
  · rename_i h0; subst h0; rfl
  · simp
theorem OTS.ts {w : World} {base : Nat} {ts : List Tm} {v : Value} (h : OTS w base ts v) : TS w (fun b => base ≤ b) ts v := by
  obtain ⟨cs, h, hr⟩ := h
  rcases h.2 with ⟨rfl, hn⟩ | ⟨g, cap, cur, rfl, hb, hh, hc1, hc2, hcur, htake⟩
  · obtain rfl : ts = [] := List.length_eq_zero_iff.1 hn
    exact ⟨none, 0, fun _ => .bool false, rfl, Nat.le_refl _, by omega, fun h => by simp at h, fun j a ha => by simp at ha⟩
  · refine ⟨some ⟨g, 0, none⟩, cap, fun j => .agg #[(cs[j * 3]?).getD undef, (cs[j * 3 + 1]?).getD undef, (cs[j * 3 + 2]?).getD undef], rfl, hc1, hc2, fun _ => ⟨g, 0, rfl, hb, fun j hj => ?_⟩, fun j a ha => ?_⟩
    · obtain ⟨c0, c1, c2, e0, e1, e2, hT⟩ := hr j _ (List.getElem?_eq_getElem hj)
      have f := fun i u (hu : cs[i]? = some u) => h.cells (g := g) rfl i u hu
      simp only [addr_add] at f
      refine ⟨c0, c1, c2, by simp [e0, e1, e2], ?_, ?_, ?_⟩
      · rw [Nat.zero_add]; exact f _ _ e0
      · rw [Nat.zero_add]; exact f _ _ e1
      · rw [Nat.zero_add]; exact f _ _ e2
    · obtain ⟨c0, c1, c2, e0, e1, e2, hT⟩ := hr j a ha
      simp only [e0, e1, e2, Option.getD_some]
      exact hT.mono fun k hk _ => hk.1
theorem OTS.append {w w1 : World} {base N : Nat} {ts : List Tm} {v v1 : Value} {a : Tm} {c0 c1 c2 : Value} {cs : List Value}
    (h : OTS w base ts v) (hcs : w.ownsRow base 25 3 v ts.length cs) (ha : TR w (fun b => N ≤ b) a (.agg #[c0, c1, c2])) (hN : ∀ k, v.ownBlock = some k → k < N) (hbN : base ≤ N)
    (ho : w1.ownsRow base 25 3 v1 (ts.length + 1) (cs ++ [c0, c1, c2])) (hg : w.grownBy w1 v.ownBlock) (hl : v1.ownBlock = v.ownBlock ∨ v1.ownBlock = some w.heap.size) : OTS w1 base (ts ++ [a]) v1 := by
  obtain ⟨cs', h', hr⟩ := h
  have e : cs' = cs := by
    rcases hcs.2 with ⟨rfl, hn⟩ | ⟨g, cap, cur, rfl, hb, hh, hc1, hc2, hcur, htake⟩
    · have x1 := h'.1; have x2 := hcs.1
      rw [hn] at x1 x2
      rw [List.length_eq_zero_iff.1 x1, List.length_eq_zero_iff.1 x2]
    · rcases h'.2 with ⟨e, _⟩ | ⟨g', cap', cur', e, hb', hh', _, _, _, htake'⟩
      · cases e
      · cases e
        rw [hh] at hh'
        cases hh'
        rw [← htake, ← htake']
  subst e
  have hlen := hcs.1
  have keep : ∀ {D : Nat → Prop} {t : Tm} {x : Value}, TR w D t x → (∀ k, D k → base ≤ k ∧ v.ownBlock ≠ some k) → TR w1 (fun b => base ≤ b ∧ v1.ownBlock ≠ some b) t x := fun hT hD =>
    hT.keep fun k hk hlt => ⟨hg.block k hlt fun e => (hD k hk).2 e.symm, (hD k hk).1, fun e => by
      rcases hl with hl | hl
      · exact (hD k hk).2 (hl ▸ e)
      · rw [hl] at e; cases e; omega⟩
  refine ⟨cs' ++ [c0, c1, c2], by simpa using ho, fun j b hj => ?_⟩
  rcases Nat.lt_or_ge j ts.length with hlt | hge
  · rw [List.getElem?_append_left hlt] at hj
    obtain ⟨d0, d1, d2, e0, e1, e2, hT⟩ := hr j b hj
    exact ⟨d0, d1, d2, by rw [List.getElem?_append_left (by omega)]; exact e0, by rw [List.getElem?_append_left (by omega)]; exact e1, by rw [List.getElem?_append_left (by omega)]; exact e2, keep hT fun k hk => hk⟩
  · have hj' : j = ts.length := by
      have := (List.getElem?_eq_some_iff.1 hj).1
      simp at this; omega
    subst hj'
    rw [List.getElem?_append_right (Nat.le_refl _), Nat.sub_self] at hj
    simp only [List.getElem?_cons_zero, Option.some.injEq] at hj
    subst hj
    have hx : ∀ i, (cs' ++ [c0, c1, c2])[ts.length * 3 + i]? = [c0, c1, c2][i]? := fun i => by
      rw [List.getElem?_append_right (by omega)]; congr 1; omega
    exact ⟨c0, c1, c2, hx 0, hx 1, hx 2, keep ha fun k hk => ⟨by omega, fun e => by have := hN k e; omega⟩⟩
theorem news3 {w : World} {g : Nat} {c0 c1 c2 : Value} {t : TypeId} {fr : Nat × Nat} (h : w.heap[g]? = some (.cells #[c0, c1, c2] t fr)) : ∀ j u, [c0, c1, c2][j]? = some u → w.cell? ((⟨g, 0, none⟩ : Addr).add j) = some u := by
  intro j u hj
  rw [addr_add]
  simp only [World.cell?, h]
  simpa using hj
theorem one3 {w : World} {D : Nat → Prop} {a : Tm} {c0 c1 c2 : Value} (h : TR w D a (.agg #[c0, c1, c2])) : ∀ u ∈ [c0, c1, c2], u.oneCell' = true := by
  obtain ⟨k, n, args⟩ := a
  obtain ⟨s, e, _, _, hs⟩ := h.inv
  obtain ⟨A, c, rfl, _⟩ := hs.form
  simp only [Value.agg.injEq, Array.mk.injEq, List.cons.injEq, and_true] at e
  obtain ⟨rfl, rfl, rfl⟩ := e
  intro u hu
  simp only [List.mem_cons, List.not_mem_nil, or_false] at hu
  rcases hu with rfl | rfl | rfl <;> rfl
theorem info25 : (Tryd.prog.info? 25).map (fun i => (i.zero, i.size, i.bytes)) = some (some (.agg #[.int .i64 0, .int .i64 0, .slice none 0 0]), 3, 40) := by kernel_rfl

theorem OTS.grew {w w' : World} {base : Nat} {ts : List Tm} {v : Value} {S : Nat → Prop} (h : OTS w base ts v) (hg : Grew S w w') (hs : ∀ k, S k → k < base) : OTS w' base ts v := by
  obtain ⟨cs, h, hr⟩ := h
  refine ⟨cs, ?_, fun j a ha => ?_⟩
  · refine ⟨h.1, ?_⟩
    rcases h.2 with hn | ⟨g, cap, cur, e, hb, hh, hrest⟩
    · exact .inl hn
    · exact .inr ⟨g, cap, cur, e, hb, hg.heap hh fun hS => by have := hs g hS; omega, hrest⟩
  · obtain ⟨c0, c1, c2, e0, e1, e2, hT⟩ := hr j a ha
    exact ⟨c0, c1, c2, e0, e1, e2, hT.grew hg fun k hk hS => by have := hs k hS; have := hk.1; omega⟩
/-- A block of three cells. -/
theorem blk_cell {w : World} {g : Nat} {cs : Array Value} {t : TypeId} {fr : Nat × Nat} (h : w.heap[g]? = some (.cells cs t fr)) (j : Nat) : w.cell? ⟨g, j, none⟩ = cs[j]? := by
  simp [World.cell?, h]
theorem blk_free {w : World} {g : Nat} {cs : Array Value} {t : TypeId} (h : w.heap[g]? = some (.cells cs t (0, 0))) (j : Nat) : w.frozen? ⟨g, j, none⟩ = false := by
  simp [World.frozen?, h]
theorem blk_set {w : World} {g : Nat} {cs : Array Value} {t : TypeId} {fr : Nat × Nat} (h : w.heap[g]? = some (.cells cs t fr)) (j : Nat) (v : Value) : (w.setCell ⟨g, j, none⟩ v).heap[g]? = some (.cells (cs.setIfInBounds j v) t fr) := by
  simp [World.setCell, Array.getElem?_modify, h]
theorem Grew.setCell {S : Nat → Prop} {w w' : World} (h : Grew S w w') {g j : Nat} (hs : S g) (v : Value) : Grew S w (w'.setCell ⟨g, j, none⟩ v) :=
  h.trans ⟨rfl, rfl, rfl, by simp [World.setCell], fun k _ hk => Below.heap_setCell _ _ _ _ fun e => hk (by simpa using e ▸ hs)⟩
theorem Grew.grownBy {S : Nat → Prop} {w w' w2 : World} {row : Option Nat} (h : Grew S w w') (hg : w'.grownBy w2 row) (hs : ∀ k, row = some k → S k) : Grew S w w2 := h.trans (Grew.of_grownBy hg hs)
/-- Facts that last, as a list. -/
theorem lasts {Ψ : List (Value → World → Prop)} {w w' : World} (h : ∀ ψ ∈ Ψ, ∀ v, ψ v w → ψ v w') : ∀ (j : Nat) v, (Ψ.getD j (fun _ _ => True)) v w → (Ψ.getD j (fun _ _ => True)) v w' := by
  intro j v hv
  rw [List.getD_eq_getElem?_getD] at hv ⊢
  cases hj : Ψ[j]? with
  | none => trivial
  | some ψ =>
    rw [hj] at hv
    exact h ψ (List.mem_of_getElem? hj) v hv
end Go.Proofs.YtfhpnkmhppfeiaaDoor
