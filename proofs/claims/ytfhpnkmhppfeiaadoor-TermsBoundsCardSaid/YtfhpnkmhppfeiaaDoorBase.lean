/- How a term lies in memory; the map of the kinds' forms; what stays where nothing old is written. -/
import Derived.Test.YtfhpnkmhppfeiaaDoorProg
import Derived.Test.YtfhpnkmhppfeiaaDoorPlain
import Derived.WalkKit
import Derived.Maps.OwnOps
import Derived.Maps.AppendAt
import Derived.WalkSpells
import Derived.Lib.Hide
import Derived.WalkLawsBesides
set_option linter.unusedVariables false
set_option linter.unusedSimpArgs false
namespace Go.Proofs.YtfhpnkmhppfeiaaDoor
open Go.RowKit Go.Proofs

/-- A term's three cells at an offset of a block. -/
def rd (w : World) (b o : Nat) (v : Value) : Prop := ∃ c0 c1 c2, v = .agg #[c0, c1, c2] ∧ w.cell? ⟨b, o, none⟩ = some c0 ∧ w.cell? ⟨b, o + 1, none⟩ = some c1 ∧ w.cell? ⟨b, o + 2, none⟩ = some c2
def Row (w : World) (D : Nat → Prop) (A : Option Addr) (n : Nat) (V : Nat → Value) : Prop := 0 < n → ∃ b o, A = some ⟨b, o, none⟩ ∧ D b ∧ ∀ j, j < n → rd w b (o + j * 3) (V j)
def i64 (n : Int) : Prop := -9223372036854775808 ≤ n ∧ n ≤ 9223372036854775807

inductive TR (w : World) (D : Nat → Prop) : Tm → Value → Prop
  | mk (k n : Int) (args : List Tm) (A : Option Addr) (c : Nat) (V : Nat → Value) (hk : i64 k) (hn : i64 n) (hl : args.length ≤ c) (hc : c ≤ 9223372036854775807) (hA : Row w D A args.length V)
      (h : ∀ j a, args[j]? = some a → TR w D a (V j)) : TR w D (.mk k n args) (.agg #[.int .i64 k, .int .i64 n, .slice A args.length c])
/-- A slice of terms. -/
def TS (w : World) (D : Nat → Prop) (ts : List Tm) (v : Value) : Prop :=
  ∃ A c V, v = .slice A ts.length c ∧ ts.length ≤ c ∧ c ≤ 9223372036854775807 ∧ Row w D A ts.length V ∧ ∀ j a, ts[j]? = some a → TR w D a (V j)

def Any : Nat → Prop := fun _ => True

theorem TR.inv {w : World} {D : Nat → Prop} {k n : Int} {args : List Tm} {v : Value} (h : TR w D (.mk k n args) v) :
    ∃ s, v = .agg #[.int .i64 k, .int .i64 n, s] ∧ i64 k ∧ i64 n ∧ TS w D args s := by
  cases h with
  | mk _ _ _ A c V hk hn hl hc hA h => exact ⟨_, rfl, hk, hn, A, c, V, rfl, hl, hc, hA, h⟩
theorem TR.of {w : World} {D : Nat → Prop} {k n : Int} {args : List Tm} {s : Value} (hk : i64 k) (hn : i64 n) (h : TS w D args s) : TR w D (.mk k n args) (.agg #[.int .i64 k, .int .i64 n, s]) := by
  obtain ⟨A, c, V, rfl, hl, hc, hA, h⟩ := h
  exact .mk k n args A c V hk hn hl hc hA h

theorem rd.keep {w w' : World} {b o : Nat} {v : Value} (h : rd w b o v) (hk : w'.heap[b]? = w.heap[b]?) : rd w' b o v := by
  obtain ⟨c0, c1, c2, rfl, h0, h1, h2⟩ := h
  refine ⟨c0, c1, c2, rfl, ?_, ?_, ?_⟩
  · rw [World.cell?_of_block (w := w) (by simpa using hk)]; exact h0
  · rw [World.cell?_of_block (w := w) (by simpa using hk)]; exact h1
  · rw [World.cell?_of_block (w := w) (by simpa using hk)]; exact h2
theorem rd.lt {w : World} {b o : Nat} {v : Value} (h : rd w b o v) : b < w.heap.size := by
  obtain ⟨c0, c1, c2, rfl, h0, h1, h2⟩ := h
  exact World.block_lt_of_cell? w _ h0
theorem Row.keep {w w' : World} {D D' : Nat → Prop} {A : Option Addr} {n : Nat} {V : Nat → Value} (h : Row w D A n V) (hk : ∀ b, D b → b < w.heap.size → w'.heap[b]? = w.heap[b]? ∧ D' b) : Row w' D' A n V := by
  intro hn
  obtain ⟨b, o, e, hD, hr⟩ := h hn
  have hb := (hr 0 hn).lt
  exact ⟨b, o, e, (hk b hD hb).2, fun j hj => (hr j hj).keep (hk b hD hb).1⟩
theorem TR.keep {w w' : World} {D D' : Nat → Prop} {t : Tm} {v : Value} (h : TR w D t v) (hk : ∀ b, D b → b < w.heap.size → w'.heap[b]? = w.heap[b]? ∧ D' b) : TR w' D' t v := by
  induction h with
  | mk k n args A c V h1 h2 hl hc hA h ih => exact .mk k n args A c V h1 h2 hl hc (hA.keep hk) ih
theorem TS.keep {w w' : World} {D D' : Nat → Prop} {ts : List Tm} {v : Value} (h : TS w D ts v) (hk : ∀ b, D b → b < w.heap.size → w'.heap[b]? = w.heap[b]? ∧ D' b) : TS w' D' ts v := by
  obtain ⟨A, c, V, e, hl, hc, hA, h⟩ := h
  exact ⟨A, c, V, e, hl, hc, hA.keep hk, fun j a ha => (h j a ha).keep hk⟩
theorem TR.bel {w w' : World} {D : Nat → Prop} {t : Tm} {v : Value} (h : TR w D t v) (hb : Below w.heap.size w w') : TR w' D t v := h.keep fun b hD hlt => ⟨hb.block b hlt, hD⟩
theorem TS.bel {w w' : World} {D : Nat → Prop} {ts : List Tm} {v : Value} (h : TS w D ts v) (hb : Below w.heap.size w w') : TS w' D ts v := h.keep fun b hD hlt => ⟨hb.block b hlt, hD⟩
theorem TR.any {w : World} {D : Nat → Prop} {t : Tm} {v : Value} (h : TR w D t v) : TR w Any t v := h.keep fun _ _ _ => ⟨rfl, trivial⟩
theorem TS.any {w : World} {D : Nat → Prop} {ts : List Tm} {v : Value} (h : TS w D ts v) : TS w Any ts v := h.keep fun _ _ _ => ⟨rfl, trivial⟩
theorem TR.rng {w : World} {D : Nat → Prop} {t : Tm} {v : Value} (h : TR w D t v) : rng t := by
  induction h with
  | mk k n args A c V h1 h2 hl hc hA h ih =>
    refine ⟨h1, h2, (rngL_iff _).2 fun a ha => ?_⟩
    obtain ⟨j, hj⟩ := List.getElem?_of_mem ha
    exact ih j a hj
theorem TS.form {w : World} {D : Nat → Prop} {ts : List Tm} {v : Value} (h : TS w D ts v) : ∃ A c, v = .slice A ts.length c ∧ ts.length ≤ c ∧ c ≤ 9223372036854775807 := by
  obtain ⟨A, c, V, e, hl, hc, _⟩ := h
  exact ⟨A, c, e, hl, hc⟩
/-- An element of a slice: its cells, its reading. -/
theorem TS.at_ {w : World} {D : Nat → Prop} {ts : List Tm} {A : Option Addr} {n c : Nat} (h : TS w D ts (.slice A n c)) {j : Nat} {t : Tm} (hj : ts[j]? = some t) :
    ∃ b o A' c', A = some ⟨b, o, none⟩ ∧ D b ∧ b < w.heap.size ∧ w.cell? ⟨b, o + j * 3, none⟩ = some (.int .i64 t.k) ∧ w.cell? ⟨b, o + j * 3 + 1, none⟩ = some (.int .i64 t.n) ∧ w.cell? ⟨b, o + j * 3 + 2, none⟩ = some (.slice A' t.args.length c') ∧
      TR w D t (.agg #[.int .i64 t.k, .int .i64 t.n, .slice A' t.args.length c']) := by
  obtain ⟨A', c', V, e, hl, hc, hA, h⟩ := h
  cases e
  have hlt : j < ts.length := (List.getElem?_eq_some_iff.1 hj).1
  obtain ⟨b, o, rfl, hD, hr⟩ := hA (by omega)
  have hrj := hr j hlt
  have ht := h j t hj
  obtain ⟨c0, c1, c2, e, h0, h1, h2⟩ := hrj
  have hb := World.block_lt_of_cell? w _ h0
  rw [e] at ht
  obtain ⟨k, nn, args⟩ := t
  obtain ⟨s, e2, _, _, hs⟩ := ht.inv
  obtain ⟨A2, cc, rfl, _, _⟩ := hs.form
  simp only [Value.agg.injEq, Array.mk.injEq, List.cons.injEq, and_true] at e2
  obtain ⟨rfl, rfl, rfl⟩ := e2
  exact ⟨b, o, A2, cc, rfl, hD, hb, h0, h1, h2, ht⟩

/-! ### the map of forms -/
def formV (k : Int) : Value := .agg #[.string ⟨(kname k).toArray⟩, .int .i64 (arity k)]
def formEs : Array MapEntry := #[⟨.int .i64 1, .agg #[.string ⟨#[100]⟩, .int .i64 0], 0⟩, ⟨.int .i64 2, .agg #[.string ⟨#[115]⟩, .int .i64 0], 1⟩, ⟨.int .i64 3, .agg #[.string ⟨#[112, 117, 98, 108, 105, 99]⟩, .int .i64 1], 2⟩,
  ⟨.int .i64 4, .agg #[.string ⟨#[115, 101, 97, 108]⟩, .int .i64 2], 3⟩, ⟨.int .i64 5, .agg #[.string ⟨#[115, 105, 103, 110]⟩, .int .i64 2], 4⟩, ⟨.int .i64 6, .agg #[.string ⟨#[109, 97, 99]⟩, .int .i64 2], 5⟩,
  ⟨.int .i64 7, .agg #[.string ⟨#[112, 97, 105, 114]⟩, .int .i64 2], 6⟩, ⟨.int .i64 8, .agg #[.string ⟨#[115, 104, 97, 114, 101, 100]⟩, .int .i64 2], 7⟩, ⟨.int .i64 9, .agg #[.string ⟨#[104, 97, 115, 104]⟩, .int .i64 1], 8⟩]
def FormsAt (w : World) (m : Nat) : Prop := w.heap[m]? = some (.map formEs 9)
theorem FormsAt.lt {w : World} {m : Nat} (h : FormsAt w m) : m < w.heap.size := (Array.getElem?_eq_some_iff.1 h).1
theorem FormsAt.bel {w w' : World} {m : Nat} (h : FormsAt w m) (hb : Below w.heap.size w w') : FormsAt w' m := (hb.block m h.lt).trans h
theorem FormsAt.keep {w w' : World} {B m : Nat} (h : FormsAt w m) (hb : Below B w w') (hm : m < B) : FormsAt w' m := (hb.block m hm).trans h

theorem find_forms (k : Int) : Instr.findNow (.int .i64) (.int .i64 k) formEs.toList 0 = some (if isKind k = true then some ((k - 1).toNat, formV k) else none) := by
  by_cases h : 1 ≤ k ∧ k ≤ 9
  · have : k = 1 ∨ k = 2 ∨ k = 3 ∨ k = 4 ∨ k = 5 ∨ k = 6 ∨ k = 7 ∨ k = 8 ∨ k = 9 := by omega
    rcases this with rfl | rfl | rfl | rfl | rfl | rfl | rfl | rfl | rfl <;> rfl
  · have hk : isKind k = false := by simp only [isKind, decide_eq_false_iff_not]; exact h
    rw [hk]
    have n1 : (k == 1) = false := by simp only [beq_eq_false_iff_ne]; omega
    have n2 : (k == 2) = false := by simp only [beq_eq_false_iff_ne]; omega
    have n3 : (k == 3) = false := by simp only [beq_eq_false_iff_ne]; omega
    have n4 : (k == 4) = false := by simp only [beq_eq_false_iff_ne]; omega
    have n5 : (k == 5) = false := by simp only [beq_eq_false_iff_ne]; omega
    have n6 : (k == 6) = false := by simp only [beq_eq_false_iff_ne]; omega
    have n7 : (k == 7) = false := by simp only [beq_eq_false_iff_ne]; omega
    have n8 : (k == 8) = false := by simp only [beq_eq_false_iff_ne]; omega
    have n9 : (k == 9) = false := by simp only [beq_eq_false_iff_ne]; omega
    simp [formEs, Instr.findNow, Instr.sameNow, n1, n2, n3, n4, n5, n6, n7, n8, n9]
theorem formV_none {k : Int} (h : isKind k = false) : formV k = .agg #[.string ⟨#[]⟩, .int .i64 0] := by
  simp only [isKind, decide_eq_false_iff_not] at h
  unfold formV kname arity
  rw [if_neg (by omega), if_neg (by omega), if_neg (by omega), if_neg (by omega), if_neg (by omega), if_neg (by omega), if_neg (by omega), if_neg (by omega), if_neg (by omega), if_neg (by omega), if_neg (by omega)]
  rfl
theorem zero86 (w : World) : (zeroValue 86).run Tryd.prog w = .ok (.agg #[.string ⟨#[]⟩, .int .i64 0]) w := by kernel_rfl
theorem check23 (b : Bool) (k : Int) (w : World) : (Instr.checkKey b 10000 23 (.int .i64 k)).run Tryd.prog w = .ok () w := by kernel_rfl
theorem run_getMap {P : Program} {w : World} {m : Nat} {es : Array MapEntry} {c : Nat} (h : w.heap[m]? = some (.map es c)) : (getObj m).run P w = .ok (.map es c) w := by
  simp [getObj, Sem.run, h]
theorem run_setMap {P : Program} {w : World} {m : Nat} {es : Array MapEntry} {c : Nat} (h : w.heap[m]? = some (.map es c)) (o : Obj) : (setObj m o).run P w = .ok () { w with heap := w.heap.setIfInBounds m o } := by
  simp [setObj, Sem.run, h]
theorem look_forms_ok {w : World} {m : Nat} (h : FormsAt w m) (k : Int) : (Instr.lookup 59 (.map (some m)) (.int .i64 k) true).run Tryd.prog w = .ok (.tuple #[formV k, .bool (isKind k)]) w := by
  have hg := run_getMap (P := Tryd.prog) h
  have hf := find_forms k
  cases hk : isKind k with
  | true => simp [Instr.lookup, go_sem, hg, check23, Instr.findKey, hf, hk]
  | false => simp [Instr.lookup, go_sem, hg, check23, Instr.findKey, hf, hk, zero86, formV_none hk]
theorem look_forms {w : World} {m : Nat} (h : FormsAt w m) (k : Int) : (Instr.lookup 59 (.map (some m)) (.int .i64 k) false).run Tryd.prog w = .ok (formV k) w := by
  have hg := run_getMap (P := Tryd.prog) h
  have hf := find_forms k
  cases hk : isKind k with
  | true => simp [Instr.lookup, go_sem, hg, check23, Instr.findKey, hf, hk]
  | false => simp [Instr.lookup, go_sem, hg, check23, Instr.findKey, hf, hk, zero86, formV_none hk]
section
variable {w : World} {ops : Array Oper} {rest : List Oper} {o : Oper} {a : Act} {Q : Exit → Act → World → Prop}
theorem wpList_forms_ok (hg : o.guard = none) (x y : Operand) (hop : o.op = .lookup 59 x y true) {m : Nat} {k : Int} (hx : a.eval x = .map (some m)) (hy : a.eval y = .int .i64 k) (hf : FormsAt w m)
    (h : wpList Tryd.prog ops Q rest (a.put o.dst (.tuple #[.agg #[.string ⟨(kname k).toArray⟩, .int .i64 (arity k)], .bool (isKind k)])) w) : wpList Tryd.prog ops Q (o :: rest) a w := by
  refine wpList_plain hg fun K' hK' => ?_
  unfold Oper.wp
  simp [execOp, hop, hx, hy, look_forms_ok hf, Result.andThen]
  exact hK' _ _ h
theorem wpList_forms (hg : o.guard = none) (x y : Operand) (hop : o.op = .lookup 59 x y false) {m : Nat} {k : Int} (hx : a.eval x = .map (some m)) (hy : a.eval y = .int .i64 k) (hf : FormsAt w m)
    (h : wpList Tryd.prog ops Q rest (a.put o.dst (.agg #[.string ⟨(kname k).toArray⟩, .int .i64 (arity k)])) w) : wpList Tryd.prog ops Q (o :: rest) a w := by
  refine wpList_plain hg fun K' hK' => ?_
  unfold Oper.wp
  simp [execOp, hop, hx, hy, look_forms hf, Result.andThen]
  exact hK' _ _ h
end
/-- A callee that makes memory, called in a later world. -/
theorem bthen {w wr w1 : World} (hb : Below w.heap.size w wr) (h1 : Below wr.heap.size wr w1) : Below w.heap.size w w1 := hb.trans (h1.mono hb.size)
theorem balloc {w wr : World} (hb : Below w.heap.size w wr) (o : Obj) : Below w.heap.size w (wr.alloc o) := hb.alloc hb.size o
theorem bself (w : World) (o : Obj) : Below w.heap.size w (w.alloc o) := (Below.refl _ _).alloc (Nat.le_refl _) _
theorem ret_bi {b b' : Bool} {n n' : Int} (h : (b, n) = (b', n')) : Ending.returned (.tuple #[.bool b, .int .i64 n]) = .returned (.tuple #[.bool b', .int .i64 n']) := by cases h; rfl
theorem ret_b {b b' : Bool} (h : b = b') : Ending.returned (.bool b) = .returned (.bool b') := by cases h; rfl
theorem ret_i {k : IntKind} {b b' : Int} (h : b = b') : Ending.returned (.int k b) = .returned (.int k b') := by cases h; rfl
theorem ret_s {b b' : Bs} (h : b = b') : Ending.returned (.string ⟨b.toArray⟩) = .returned (.string ⟨b'.toArray⟩) := by cases h; rfl
theorem size_at {k n : Int} {args : List Tm} {j : Nat} {a : Tm} (h : args[j]? = some a) : size a < size (.mk k n args) := by
  have := size_mem (List.mem_of_getElem? h)
  simp only [size]; omega
end Go.Proofs.YtfhpnkmhppfeiaaDoor
