/- TermsBounds, in plain Lean: hashes over a secret up to the bound, as many secrets as may be known. -/
import Derived.Test.YtfhpnkmhppfeiaaDoorPlain7
import Derived.Test.YtfhpnkmhppfeiaaDoorR13
set_option linter.unusedVariables false
set_option linter.unusedSimpArgs false
namespace Go.Proofs.YtfhpnkmhppfeiaaDoor
open Go.RowKit Go.Proofs
/-- So many hashes over the secret 1. -/
def hashT : Nat → Tm
  | 0 => sT 1
  | n + 1 => .mk 9 0 [hashT n]
theorem hash_form (n : Nat) : form (hashT n) = true := by
  induction n with
  | zero => decide
  | succ n ih => rw [hashT, form_one (.inr rfl), ih]
theorem hash_size (n : Nat) : size (hashT n) = n + 1 := by
  induction n with
  | zero => rfl
  | succ n ih => simp only [hashT, size, sizeL, ih]; omega
theorem hash_ord (n : Nat) : ord (hashT n) = hashT n := by
  induction n with
  | zero => exact ordS 1
  | succ n ih => rw [hashT, ord_one, ih]
theorem hash_may {n : Nat} (h : n ≤ 1999) : may (hashT n) = true := (may_iff _).2 ⟨hash_form n, by rw [hash_size]; omega⟩
theorem hash_mayn {n : Nat} (h : 2000 ≤ n) : may (hashT n) = false := by
  rw [Bool.eq_false_iff]
  intro hc
  have := ((may_iff _).1 hc).2
  rw [hash_size] at this; omega
theorem mayS1 : mayL [sT 1] = true := by decide
theorem hash_can {n : Nat} (h : n ≤ 1999) : canS [sT 1] (hashT n) = true := by
  refine canS_iff.2 ⟨hash_may h, mayS1, ?_⟩
  rw [hash_ord]
  clear h
  induction n with
  | zero =>
    refine .known ?_
    have := (Know.closed [sT 1]).base (sT 1) (by simp)
    rwa [ordS] at this
  | succ n ih => exact .one (.inr rfl) ih
theorem hash_cann : canS [sT 1] (hashT 2000) = false := by
  rw [Bool.eq_false_iff]
  intro hc
  have := (canS_iff.1 hc).1
  rw [hash_mayn (Nat.le_refl _)] at this; cases this
/-- The first secrets. -/
def secs (m : Nat) : List Tm := (List.range m).map fun (i : Nat) => sT (i : Int)
theorem secs_succ (m : Nat) : secs (m + 1) = secs m ++ [sT (m : Int)] := by simp [secs, List.range_succ]
theorem secs_len (m : Nat) : (secs m).length = m := by simp [secs]
theorem secs_at {m : Nat} {t : Tm} (h : t ∈ secs m) : ∃ i : Nat, t = sT (i : Int) := by
  obtain ⟨i, _, rfl⟩ := List.mem_map.1 h
  exact ⟨i, rfl⟩
theorem secs_may (m : Nat) : ∀ t ∈ secs m, may t = true := fun t ht => by
  obtain ⟨i, rfl⟩ := secs_at ht
  refine (may_iff _).2 ⟨?_, by simp [sT, size, sizeL]⟩
  simp [sT, form, formL, headOK, isKind, arity]
theorem secs_mayL : mayL (secs 500) = true := mayL_iff.2 ⟨by rw [secs_len]; omega, secs_may 500⟩
theorem secs_mayn (t : Tm) : mayL (secs 500 ++ [t]) = false := by
  rw [Bool.eq_false_iff]
  intro hc
  have := (mayL_iff.1 hc).1
  rw [List.length_append, secs_len] at this
  simp at this
theorem secs_nodup (m : Nat) : (secs m).Nodup := by
  unfold secs
  rw [List.nodup_iff_pairwise_ne, List.pairwise_map]
  refine List.Pairwise.imp ?_ (List.nodup_range (n := m))
  intro a b h e
  simp only [sT, Tm.mk.injEq, true_and, and_true] at e
  exact h (by omega)
/-- Of secrets no more is learnt than they. -/
theorem secs_learnt {m : Nat} {ts us : List Tm} (h : Learnt (secs m) ts) (hn : ts.Nodup) (hp : us.Perm ts) : us.length = m := by
  have hx : ∀ t, t ∈ ts ↔ t ∈ secs m := fun t => by
    constructor
    · intro ht
      have no : ∀ {k : Int} {a b : Tm}, k ≠ 2 → (Tm.mk k 0 [a, b]) ∈ secs m → False := fun hk hm => by
        obtain ⟨i, e⟩ := secs_at hm
        simp only [sT, Tm.mk.injEq] at e
        exact hk e.1
      refine h.know t ht (· ∈ secs m) ⟨fun t ht => ?_, fun a b hm => (no (by omega) hm).elim, fun a b hm => (no (by omega) hm).elim, fun a b hm _ => (no (by omega) hm).elim⟩
      obtain ⟨i, rfl⟩ := secs_at ht
      rw [ordS]; exact ht
    · intro ht
      have := h.base t ht
      obtain ⟨i, rfl⟩ := secs_at ht
      rwa [ordS] at this
  rw [hp.length_eq, ((List.perm_ext_iff_of_nodup hn (secs_nodup m)).2 hx).length_eq, secs_len]
/-- A hash, made of a term that lies in a block. -/
theorem TS.one_ {w : World} {D : Nat → Prop} {g : Nat} {a : Tm} {x0 x1 x2 : Value} (hg : w.heap[g]? = some (.cells #[x0, x1, x2] 25 (0, 0))) (hD : D g) (ha : TR w D a (.agg #[x0, x1, x2])) : TS w D [a] (.slice (some ⟨g, 0, none⟩) 1 1) := by
  refine ⟨some ⟨g, 0, none⟩, 1, fun _ => .agg #[x0, x1, x2], rfl, Nat.le_refl _, by omega, fun _ => ⟨g, 0, rfl, hD, fun j hj => ?_⟩, fun j t hj => ?_⟩
  · obtain rfl : j = 0 := by simp at hj; omega
    exact ⟨x0, x1, x2, rfl, (blk_cell hg 0).trans rfl, (blk_cell hg 1).trans rfl, (blk_cell hg 2).trans rfl⟩
  · match j, hj with
    | 0, hj => simp at hj; subst hj; exact ha
theorem TR.hash {w : World} {D : Nat → Prop} {g n : Nat} {x0 x1 x2 : Value} (hg : w.heap[g]? = some (.cells #[x0, x1, x2] 25 (0, 0))) (hD : D g) (ha : TR w D (hashT n) (.agg #[x0, x1, x2])) :
    TR w D (hashT (n + 1)) (.agg #[.int .i64 9, .int .i64 0, .slice (some ⟨g, 0, none⟩) 1 1]) :=
  TR.of (by unfold i64; omega) (by unfold i64; omega) (TS.one_ hg hD ha)
theorem TR.secAt {w : World} {D : Nat → Prop} {i : Nat} (hi : i < 500) : TR w D (sT (i : Int)) (.agg #[.int .i64 2, .int .i64 i, .slice none 0 0]) :=
  TR.of (by unfold i64; omega) (by unfold i64; omega) ⟨none, 0, fun _ => undef, rfl, Nat.le_refl 0, by omega, fun h => absurd h (by simp), fun j a h => by simp at h⟩
end Go.Proofs.YtfhpnkmhppfeiaaDoor
