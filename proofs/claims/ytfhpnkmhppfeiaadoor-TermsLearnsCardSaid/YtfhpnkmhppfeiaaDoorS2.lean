/- The reference: made: the two regions that make two blocks each. -/
import Derived.Test.YtfhpnkmhppfeiaaDoorS1
import Derived.Test.YtfhpnkmhppfeiaaDoorPost3
import Derived.Test.YtfhpnkmhppfeiaaDoorR8
set_option linter.unusedVariables false
set_option linter.unusedSimpArgs false
namespace Go.Proofs.YtfhpnkmhppfeiaaDoor
open Go.RowKit Go.Proofs
def blk : Value → Nat
  | .pointer (some a) => a.block
  | .slice (some a) _ _ => a.block
  | _ => 0
def z3 : Array Value := #[.int .i64 0, .int .i64 0, .slice none 0 0]
theorem Grew.grow_heap {w w' : World} (h : Below w.heap.size w w') {k : Nat} {o : Obj} (hc : w.heap[k]? = some o) : w'.heap[k]? = some o := (h.block k (Array.getElem?_eq_some_iff.1 hc).1).trans hc
theorem heap_lt {w : World} {k : Nat} {o : Obj} (hc : w.heap[k]? = some o) : k < w.heap.size := (Array.getElem?_eq_some_iff.1 hc).1
theorem heap_set {w : World} {k : Nat} {o : Obj} {a : Addr} {v : Value} (hc : w.heap[k]? = some o) (hne : k ≠ a.block) : (w.setCell a v).heap[k]? = some o := (Below.heap_setCell w a v k hne).trans hc

structure J6 (w1 : World) (cs : List Value) (va : Array Value) (L : Nat → Bool) (vals : Nat → Value) (w' : World) : Prop where
  bel : Below w1.heap.size w1 w'
  val : ∀ j, j < 8 → L j = true → vals j = cs.getD j undef
  one : L 8 = true → vals 8 = .pointer (some ⟨blk (vals 8), 0, none⟩) ∧ w1.heap.size ≤ blk (vals 8) ∧ w'.heap[blk (vals 8)]? = some (.cells (if L 10 = true then va else z3) 25 (0, 0))
  two : L 9 = true → vals 9 = .pointer (some ⟨blk (vals 9), 0, none⟩) ∧ w1.heap.size ≤ blk (vals 9) ∧ w'.heap[blk (vals 9)]? = some (.cells z3 25 (0, 0))
  ne : L 8 = true → L 9 = true → blk (vals 8) ≠ blk (vals 9)
  ten : L 10 = true → L 8 = true
section
variable {w1 : World} {cs : List Value} {va : Array Value} {L : Nat → Bool} {vals : Nat → Value} {w w' : World}
theorem J6.start : J6 w1 cs va (fun _ => false) vals w1.drew := by constructor; exact (Below.refl _ _).drew; (intro j _ h; cases h); all_goals (intro h; cases h)
theorem J6.quiet (h : J6 w1 cs va L vals w) (i : Nat) (hi : i < 8) {v : Value} (hv : v = cs.getD i undef) : J6 w1 cs va (fun j => decide (j = i) || L j) (fun j => if j = i then v else vals j) w := by
  have e8 : (8 : Nat) ≠ i := by omega
  have e9 : (9 : Nat) ≠ i := by omega
  have e10 : (10 : Nat) ≠ i := by omega
  refine ⟨h.bel, fun j hj hL => ?_, ?_, ?_, ?_, ?_⟩
  · by_cases e : j = i
    · subst e; simpa using hv
    · simp only [e, decide_false, Bool.false_or, if_neg e] at hL ⊢; exact h.val j hj hL
  · simpa only [e8, e9, e10, decide_false, Bool.false_or, if_false] using h.one
  · simpa only [e8, e9, e10, decide_false, Bool.false_or, if_false] using h.two
  · simpa only [e8, e9, e10, decide_false, Bool.false_or, if_false] using h.ne
  · simpa only [e8, e9, e10, decide_false, Bool.false_or, if_false] using h.ten
theorem J6.al1 (h : J6 w1 cs va L vals w) (hL : L 8 = false) : J6 w1 cs va (fun j => decide (j = 8) || L j) (fun j => if j = 8 then .pointer (some ⟨w.heap.size, 0, none⟩) else vals j) (w.alloc (.cells z3 25)) := by
  have hb := bself w (.cells z3 25)
  refine ⟨bthen h.bel hb, fun j hj hL => ?_, fun _ => ?_, fun h9 => ?_, fun _ h9 => ?_, fun _ => rfl⟩
  · have e : j ≠ 8 := by omega
    simp only [e, decide_false, Bool.false_or, if_neg e] at hL ⊢; exact h.val j hj hL
  · have e10 : L 10 = false := by cases e : L 10 with | false => rfl | true => rw [h.ten e] at hL; cases hL
    have : (10 : Nat) ≠ 8 := by omega
    simp only [if_true, blk, this, decide_false, Bool.false_or, e10]
    refine ⟨trivial, h.bel.size, ?_⟩
    rw [if_neg (by decide)]; exact heap_alloc_new _ _
  · have e : (9 : Nat) ≠ 8 := by omega
    simp only [e, decide_false, Bool.false_or, if_neg e] at h9 ⊢
    obtain ⟨a, b, c⟩ := h.two h9
    exact ⟨a, b, Grew.grow_heap hb c⟩
  · simp only [show decide ((9 : Nat) = 8) = false from rfl, Bool.false_or] at h9
    have := heap_lt (h.two h9).2.2
    show w.heap.size ≠ blk (vals 9)
    omega
theorem J6.al2 (h : J6 w1 cs va L vals w) (hL : L 9 = false) : J6 w1 cs va (fun j => decide (j = 9) || L j) (fun j => if j = 9 then .pointer (some ⟨w.heap.size, 0, none⟩) else vals j) (w.alloc (.cells z3 25)) := by
  have hb := bself w (.cells z3 25)
  have e : (8 : Nat) ≠ 9 := by omega
  have e10 : (10 : Nat) ≠ 9 := by omega
  refine ⟨bthen h.bel hb, fun j hj hL => ?_, fun h8 => ?_, fun _ => ?_, fun h8 _ => ?_, fun ht => ?_⟩
  · have e : j ≠ 9 := by omega
    simp only [e, decide_false, Bool.false_or, if_neg e] at hL ⊢; exact h.val j hj hL
  · simp only [e, e10, decide_false, Bool.false_or, if_neg e] at h8 ⊢
    obtain ⟨a, b, c⟩ := h.one h8
    exact ⟨a, b, Grew.grow_heap hb c⟩
  · simp only [if_true, blk]
    exact ⟨trivial, h.bel.size, heap_alloc_new _ _⟩
  · simp only [show decide ((8 : Nat) = 9) = false from rfl, Bool.false_or] at h8
    have := heap_lt (h.one h8).2.2
    show blk (vals 8) ≠ w.heap.size
    omega
  · simp only [e, e10, decide_false, Bool.false_or] at ht ⊢
    exact h.ten ht
/-- What is stored into the first. -/
theorem J6.st (h : J6 w1 cs va L vals w) (h8 : L 8 = true) (h9 : L 9 = true) (hw : w'.heap.size = w.heap.size) (hos : w'.os = w.os ∧ w'.tape = w.tape ∧ w'.output = w.output) (hh : ∀ k, k ≠ blk (vals 8) → w'.heap[k]? = w.heap[k]?)
    (hn : w'.heap[blk (vals 8)]? = some (.cells va 25 (0, 0))) (v : Value) : J6 w1 cs va (fun j => decide (j = 10) || L j) (fun j => if j = 10 then v else vals j) w' := by
  have e8 : (8 : Nat) ≠ 10 := by omega
  have e9 : (9 : Nat) ≠ 10 := by omega
  obtain ⟨a, b, c⟩ := h.one h8
  refine ⟨⟨hos.1.trans h.bel.os, hos.2.1.trans h.bel.tape, hos.2.2.trans h.bel.output, by rw [hw]; exact h.bel.size, fun i hi => (hh i (by omega)).trans (h.bel.block i hi)⟩, fun j hj hL => ?_, fun _ => ?_, fun _ => ?_, fun _ _ => ?_, fun _ => ?_⟩
  · have e : j ≠ 10 := by omega
    simp only [e, decide_false, Bool.false_or, if_neg e] at hL ⊢; exact h.val j hj hL
  · simp only [if_neg e8, decide_true, Bool.true_or, if_true]
    exact ⟨a, b, hn⟩
  · simp only [if_neg e9]
    obtain ⟨a', b', c'⟩ := h.two h9
    exact ⟨a', b', (hh _ (Ne.symm (h.ne h8 h9))).trans c'⟩
  · simp only [if_neg e8, if_neg e9]
    exact h.ne h8 h9
  · simp only [e8, decide_false, Bool.false_or]
    exact h8
end

/-- The second region: two rows of one term, two terms of them. -/
structure J7 (w1 : World) (va vb : Array Value) (L : Nat → Bool) (vals : Nat → Value) (w' : World) : Prop where
  bel : Below w1.heap.size w1 w'
  v0 : L 0 = true → vals 0 = .agg va
  v3 : L 3 = true → vals 3 = .agg vb
  e1 : L 1 = true → vals 1 = .slice (some ⟨blk (vals 1), 0, none⟩) 1 1 ∧ w1.heap.size ≤ blk (vals 1) ∧ w'.heap[blk (vals 1)]? = some (.cells va 25 (0, 0))
  e4 : L 4 = true → vals 4 = .slice (some ⟨blk (vals 4), 0, none⟩) 1 1 ∧ w1.heap.size ≤ blk (vals 4) ∧ w'.heap[blk (vals 4)]? = some (.cells vb 25 (0, 0))
  e2 : L 2 = true → L 1 = true ∧ vals 2 = .agg #[.int .i64 3, .int .i64 0, vals 1]
  e5 : L 5 = true → L 4 = true ∧ vals 5 = .agg #[.int .i64 3, .int .i64 0, vals 4]
  e6 : L 6 = true → vals 6 = .pointer (some ⟨blk (vals 6), 0, none⟩) ∧ w1.heap.size ≤ blk (vals 6) ∧ w'.heap[blk (vals 6)]? = some (.cells (if L 8 = true then #[.int .i64 3, .int .i64 0, vals 1] else z3) 25 (0, 0))
  e7 : L 7 = true → vals 7 = .pointer (some ⟨blk (vals 7), 0, none⟩) ∧ w1.heap.size ≤ blk (vals 7) ∧ w'.heap[blk (vals 7)]? = some (.cells z3 25 (0, 0))
  d67 : L 6 = true → L 7 = true → blk (vals 6) ≠ blk (vals 7)
  d61 : L 6 = true → L 1 = true → blk (vals 6) ≠ blk (vals 1)
  d64 : L 6 = true → L 4 = true → blk (vals 6) ≠ blk (vals 4)
  d71 : L 7 = true → L 1 = true → blk (vals 7) ≠ blk (vals 1)
  d74 : L 7 = true → L 4 = true → blk (vals 7) ≠ blk (vals 4)
  e8 : L 8 = true → L 6 = true ∧ L 1 = true
section
variable {w1 : World} {va vb : Array Value} {L : Nat → Bool} {vals : Nat → Value} {w w' : World}
theorem J7.start : J7 w1 va vb (fun _ => false) vals w1.drew := by constructor; exact (Below.refl _ _).drew; all_goals (intro h; cases h)
theorem J7.grow (h : J7 w1 va vb L vals w) (hb : Below w.heap.size w w') : J7 w1 va vb L vals w' := by
  obtain ⟨bel, v0, v3, e1, e4, e2, e5, e6, e7, d67, d61, d64, d71, d74, e8⟩ := h
  refine ⟨bthen bel hb, v0, v3, fun h => ?_, fun h => ?_, e2, e5, fun h => ?_, fun h => ?_, d67, d61, d64, d71, d74, e8⟩
  · obtain ⟨a, b, c⟩ := e1 h; exact ⟨a, b, Grew.grow_heap hb c⟩
  · obtain ⟨a, b, c⟩ := e4 h; exact ⟨a, b, Grew.grow_heap hb c⟩
  · obtain ⟨a, b, c⟩ := e6 h; exact ⟨a, b, Grew.grow_heap hb c⟩
  · obtain ⟨a, b, c⟩ := e7 h; exact ⟨a, b, Grew.grow_heap hb c⟩
theorem J7.q0 (h : J7 w1 va vb L vals w) (hL : L 0 = false) : J7 w1 va vb (fun j => decide (j = 0) || L j) (fun j => if j = 0 then .agg va else vals j) w := by
  obtain ⟨bel, v0, v3, e1, e4, e2, e5, e6, e7, d67, d61, d64, d71, d74, e8⟩ := h
  constructor <;> first | assumption | (simp; done) | (simp; assumption)
theorem J7.q3 (h : J7 w1 va vb L vals w) (hL : L 3 = false) : J7 w1 va vb (fun j => decide (j = 3) || L j) (fun j => if j = 3 then .agg vb else vals j) w := by
  obtain ⟨bel, v0, v3, e1, e4, e2, e5, e6, e7, d67, d61, d64, d71, d74, e8⟩ := h
  constructor <;> first | assumption | (simp; done) | (simp; assumption)
theorem J7.q2 (h : J7 w1 va vb L vals w) (h1 : L 1 = true) : J7 w1 va vb (fun j => decide (j = 2) || L j) (fun j => if j = 2 then .agg #[.int .i64 3, .int .i64 0, vals 1] else vals j) w := by
  obtain ⟨bel, v0, v3, e1, e4, e2, e5, e6, e7, d67, d61, d64, d71, d74, e8⟩ := h
  constructor <;> first | assumption | (simp; done) | (simp; assumption)
theorem J7.q5 (h : J7 w1 va vb L vals w) (h1 : L 4 = true) : J7 w1 va vb (fun j => decide (j = 5) || L j) (fun j => if j = 5 then .agg #[.int .i64 3, .int .i64 0, vals 4] else vals j) w := by
  obtain ⟨bel, v0, v3, e1, e4, e2, e5, e6, e7, d67, d61, d64, d71, d74, e8⟩ := h
  constructor <;> first | assumption | (simp; done) | (simp; assumption)
theorem J7.s1 (h : J7 w1 va vb L vals w) (hL : L 1 = false) : J7 w1 va vb (fun j => decide (j = 1) || L j) (fun j => if j = 1 then .slice (some ⟨w.heap.size, 0, none⟩) 1 1 else vals j) (w.alloc (.cells va 25)) := by
  have s6 := fun x => heap_lt (h.e6 x).2.2
  have s7 := fun x => heap_lt (h.e7 x).2.2
  have hs := h.bel.size
  have h8 : L 8 = false := by cases e : L 8 with | false => rfl | true => rw [(h.e8 e).2] at hL; cases hL
  have h2 : L 2 = false := by cases e : L 2 with | false => rfl | true => rw [(h.e2 e).1] at hL; cases hL
  have hn := heap_alloc_new w (.cells va 25)
  obtain ⟨bel, v0, v3, e1, e4, e2, e5, e6, e7, d67, d61, d64, d71, d74, e8⟩ := h.grow (bself w (.cells va 25))
  constructor <;> first | assumption | (simp [blk, h8, h2] at *; done) | (simp [blk, h8, h2] at *; assumption) | (simp [blk, h8, h2] at *)
  · exact ⟨hs, hn⟩
  · intro h; have := s6 h; omega
  · intro h; have := s7 h; omega
theorem J7.s4 (h : J7 w1 va vb L vals w) (hL : L 4 = false) : J7 w1 va vb (fun j => decide (j = 4) || L j) (fun j => if j = 4 then .slice (some ⟨w.heap.size, 0, none⟩) 1 1 else vals j) (w.alloc (.cells vb 25)) := by
  have s6 := fun x => heap_lt (h.e6 x).2.2
  have s7 := fun x => heap_lt (h.e7 x).2.2
  have hs := h.bel.size
  have h5 : L 5 = false := by cases e : L 5 with | false => rfl | true => rw [(h.e5 e).1] at hL; cases hL
  have hn := heap_alloc_new w (.cells vb 25)
  obtain ⟨bel, v0, v3, e1, e4, e2, e5, e6, e7, d67, d61, d64, d71, d74, e8⟩ := h.grow (bself w (.cells vb 25))
  constructor <;> first | assumption | (simp [blk, h5] at *; done) | (simp [blk, h5] at *; assumption) | (simp [blk, h5] at *)
  · exact ⟨hs, hn⟩
  · intro h; have := s6 h; omega
  · intro h; have := s7 h; omega
theorem J7.a6 (h : J7 w1 va vb L vals w) (hL : L 6 = false) : J7 w1 va vb (fun j => decide (j = 6) || L j) (fun j => if j = 6 then .pointer (some ⟨w.heap.size, 0, none⟩) else vals j) (w.alloc (.cells z3 25)) := by
  have s1 := fun x => heap_lt (h.e1 x).2.2
  have s4 := fun x => heap_lt (h.e4 x).2.2
  have s7 := fun x => heap_lt (h.e7 x).2.2
  have hs := h.bel.size
  have h8 : L 8 = false := by cases e : L 8 with | false => rfl | true => rw [(h.e8 e).1] at hL; cases hL
  have hn := heap_alloc_new w (.cells z3 25)
  obtain ⟨bel, v0, v3, e1, e4, e2, e5, e6, e7, d67, d61, d64, d71, d74, e8⟩ := h.grow (bself w (.cells z3 25))
  constructor <;> first | assumption | (simp [blk, h8] at *; done) | (simp [blk, h8] at *; assumption) | (simp [blk, h8] at *)
  · exact ⟨hs, hn⟩
  · intro h; have := s7 h; omega
  · intro h; have := s1 h; omega
  · intro h; have := s4 h; omega
theorem J7.a7 (h : J7 w1 va vb L vals w) (hL : L 7 = false) : J7 w1 va vb (fun j => decide (j = 7) || L j) (fun j => if j = 7 then .pointer (some ⟨w.heap.size, 0, none⟩) else vals j) (w.alloc (.cells z3 25)) := by
  have s1 := fun x => heap_lt (h.e1 x).2.2
  have s4 := fun x => heap_lt (h.e4 x).2.2
  have s6 := fun x => heap_lt (h.e6 x).2.2
  have hs := h.bel.size
  have hn := heap_alloc_new w (.cells z3 25)
  obtain ⟨bel, v0, v3, e1, e4, e2, e5, e6, e7, d67, d61, d64, d71, d74, e8⟩ := h.grow (bself w (.cells z3 25))
  constructor <;> first | assumption | (simp [blk] at *; done) | (simp [blk] at *; assumption) | (simp [blk] at *)
  · exact ⟨hs, hn⟩
  · intro h; have := s6 h; omega
  · intro h; have := s1 h; omega
  · intro h; have := s4 h; omega
theorem J7.st (h : J7 w1 va vb L vals w) (h6 : L 6 = true) (h1 : L 1 = true) (hw : w'.heap.size = w.heap.size) (hos : w'.os = w.os ∧ w'.tape = w.tape ∧ w'.output = w.output) (hh : ∀ k, k ≠ blk (vals 6) → w'.heap[k]? = w.heap[k]?)
    (hn : w'.heap[blk (vals 6)]? = some (.cells #[.int .i64 3, .int .i64 0, vals 1] 25 (0, 0))) (v : Value) : J7 w1 va vb (fun j => decide (j = 8) || L j) (fun j => if j = 8 then v else vals j) w' := by
  obtain ⟨bel, v0, v3, e1, e4, e2, e5, e6, e7, d67, d61, d64, d71, d74, e8⟩ := h
  have x1 := e6 h6
  have hb' : Below w1.heap.size w1 w' := ⟨hos.1.trans bel.os, hos.2.1.trans bel.tape, hos.2.2.trans bel.output, by rw [hw]; exact bel.size, fun i hi => (hh i (by omega)).trans (bel.block i hi)⟩
  constructor <;> first | assumption | (simp [h6, h1] at *; done) | (simp [h6, h1] at *; assumption) | (simp [h6, h1] at *)
  · exact ⟨e1.1, e1.2.1, (hh _ (Ne.symm d61)).trans e1.2.2⟩
  · intro h; exact ⟨(e4 h).1, (e4 h).2.1, (hh _ (Ne.symm (d64 h))).trans (e4 h).2.2⟩
  · exact ⟨e6.1, e6.2.1, hn⟩
  · intro h; exact ⟨(e7 h).1, (e7 h).2.1, (hh _ (Ne.symm (d67 h))).trans (e7 h).2.2⟩
end
end Go.Proofs.YtfhpnkmhppfeiaaDoor
