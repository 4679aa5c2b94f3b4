/- What came in, opened: terms and slices of terms; what was read stays as it was. -/
import Derived.Test.YtfhpnkmhppfeiaaDoorB2
import Derived.Test.YtfhpnkmhppfeiaaDoorChecked
import Derived.Test.YtfhpnkmhppfeiaaDoorRows
import Derived.ProofKit
import Derived.OpenShut
import Derived.Carry
import Derived.Deep.DeepHandedRow
import Derived.Lib.LaidTab
set_option linter.unusedVariables false
set_option linter.unusedSimpArgs false
namespace Go.Proofs.YtfhpnkmhppfeiaaDoor
open Go.ChangeShapes Go.WideShapes Go.ChangeAt Go.RowKit Go.Proofs
theorem cells25 : Tryd.prog.cellsOf 25 = 3 := by kernel_rfl
theorem cells23 : Tryd.prog.cellsOf 23 = 1 := by kernel_rfl
theorem cells22 : Tryd.prog.cellsOf 22 = 1 := by kernel_rfl
theorem cells3 : Tryd.prog.cellsOf 3 = 1 := by kernel_rfl
theorem i64_wf {n : Int} (h : (Lit.int .i64 n).wf = true) : i64 n := by
  simp only [Lit.wf, Bool.and_eq_true, decide_eq_true_eq] at h
  have e1 : IntKind.i64.min = -9223372036854775808 := rfl
  have e2 : IntKind.i64.max = 9223372036854775807 := rfl
  unfold i64
  omega
section
variable {H : Type} {enc : TypeId × Value → H} {w : World} {sp : Nat → Bool} {held : Bool}
set_option maxRecDepth 100000 in
theorem open_fuel : ∀ (fuel : Nat), (∀ cs x, DataW.trod enc Tryd.prog w 0 sp held fuel 25 cs = some x → ∃ c0 c1 c2 t, cs = [c0, c1, c2] ∧ TR w Any t (.agg #[c0, c1, c2])) ∧
    (∀ cs x, DataW.trod enc Tryd.prog w 0 sp held fuel 22 cs = some x → ∃ v ts, cs = [v] ∧ TS w Any ts v) := by
  intro fuel
  induction fuel with
  | zero => exact ⟨fun cs x h => by simp [DataW.trod] at h, fun cs x h => by simp [DataW.trod] at h⟩
  | succ fuel ih =>
    refine ⟨fun cs x h => ?_, fun cs x h => ?_⟩
    · obtain ⟨xs, n, hn, _, hl, hlen, hf⟩ := DataW.trod_struct Tryd.underlying25 h
      obtain rfl : n = fuel := by omega
      rw [cells25] at hl
      match cs, hl with
      | [c0, c1, c2], _ =>
        have h0 := hf 0 _ rfl
        have h1 := hf 1 _ rfl
        have h2 := hf 2 _ rfl
        replace h0 : DataW.trod enc Tryd.prog w 0 sp held n 23 (List.take (Tryd.prog.cellsOf 23) [c0, c1, c2]) = xs[0]? := h0
        replace h1 : DataW.trod enc Tryd.prog w 0 sp held n 3 (List.take (Tryd.prog.cellsOf 3) [c1, c2]) = xs[1]? := h1
        replace h2 : DataW.trod enc Tryd.prog w 0 sp held n 22 (List.take (Tryd.prog.cellsOf 22) [c2]) = xs[2]? := h2
        rw [cells23] at h0
        rw [cells3] at h1
        rw [cells22] at h2
        replace h0 : DataW.trod enc Tryd.prog w 0 sp held n 23 [c0] = xs[0]? := h0
        replace h1 : DataW.trod enc Tryd.prog w 0 sp held n 3 [c1] = xs[1]? := h1
        replace h2 : DataW.trod enc Tryd.prog w 0 sp held n 22 [c2] = xs[2]? := h2
        rw [List.getElem?_eq_getElem (by rw [hlen]; decide)] at h0 h1 h2
        obtain ⟨k, e0, _, w0⟩ := DataW.trod_int Tryd.underlying23 h0
        obtain ⟨m, e1, _, w1⟩ := DataW.trod_int Tryd.underlying3 h1
        obtain ⟨v, ts, e2, hT⟩ := ih.2 _ _ h2
        cases e0; cases e1; cases e2
        exact ⟨_, _, _, .mk k m ts, rfl, TR.of (i64_wf w0) (i64_wf w1) hT⟩
    · rcases DataW.trod_slice Tryd.underlying22 h with ⟨rfl, _⟩ | ⟨a, len, cap, elems, rest, n, hn, rfl, _, _, hlc, hcm, hel, hat, _⟩
      · exact ⟨_, [], rfl, none, 0, fun _ => undef, rfl, Nat.le_refl 0, by omega, fun h => absurd h (by simp), fun j a h => by simp at h⟩
      · obtain rfl : n = fuel := by omega
        have key : ∀ i, i < len → ∃ c0 c1 c2 t, w.cell? (a.add (i * 3)) = some c0 ∧ w.cell? ((a.add (i * 3)).add 1) = some c1 ∧ w.cell? ((a.add (i * 3)).add 2) = some c2 ∧ TR w Any t (.agg #[c0, c1, c2]) := by
          intro i hi
          have hh := hat i hi
          rw [List.getElem?_eq_getElem (by omega), cells25] at hh
          obtain ⟨cs', h1, h2⟩ := Option.bind_eq_some_iff.1 hh
          obtain ⟨c0, c1, c2, t, rfl, hT⟩ := ih.1 _ _ h2
          obtain ⟨_, _, hc⟩ := World.cells?_some h1
          exact ⟨c0, c1, c2, t, by simpa [Addr.add] using hc 0 (by omega), by simpa using hc 1 (by omega), by simpa using hc 2 (by omega), hT⟩
        have choose : ∃ ts : List Tm, ts.length = len ∧ ∀ i t, ts[i]? = some t → ∃ c0 c1 c2, w.cell? (a.add (i * 3)) = some c0 ∧ w.cell? ((a.add (i * 3)).add 1) = some c1 ∧ w.cell? ((a.add (i * 3)).add 2) = some c2 ∧ TR w Any t (.agg #[c0, c1, c2]) := by
          have : ∀ m, m ≤ len → ∃ ts : List Tm, ts.length = m ∧ ∀ i t, ts[i]? = some t → ∃ c0 c1 c2, w.cell? (a.add (i * 3)) = some c0 ∧ w.cell? ((a.add (i * 3)).add 1) = some c1 ∧ w.cell? ((a.add (i * 3)).add 2) = some c2 ∧ TR w Any t (.agg #[c0, c1, c2]) := by
            intro m
            induction m with
            | zero => exact fun _ => ⟨[], rfl, fun i t h => by simp at h⟩
            | succ m ihm =>
              intro hm
              obtain ⟨ts, hts, hall⟩ := ihm (by omega)
              obtain ⟨c0, c1, c2, t, q⟩ := key m (by omega)
              refine ⟨ts ++ [t], by simp [hts], fun i u hu => ?_⟩
              rcases Nat.lt_or_ge i ts.length with hlt | hge
              · rw [List.getElem?_append_left hlt] at hu; exact hall i u hu
              · have hi : i = m := by
                  have := (List.getElem?_eq_some_iff.1 hu).1
                  simp at this; omega
                subst hi
                rw [List.getElem?_append_right hge, ← hts, Nat.sub_self] at hu
                simp only [List.getElem?_cons_zero, Option.some.injEq] at hu
                subst hu
                exact ⟨c0, c1, c2, q⟩
          exact this len (Nat.le_refl _)
        obtain ⟨ts, hts, hall⟩ := choose
        subst hts
        obtain ⟨b, off, spot⟩ := a
        refine ⟨_, ts, rfl, some ⟨b, off, spot⟩, cap, fun i => .agg #[(w.cell? ⟨b, off + i * 3, none⟩).getD undef, (w.cell? ⟨b, off + i * 3 + 1, none⟩).getD undef, (w.cell? ⟨b, off + i * 3 + 2, none⟩).getD undef], rfl, hlc, by simpa [maxLen] using hcm, ?_, ?_⟩
        · intro hpos
          obtain ⟨c0, c1, c2, q0, _⟩ := hall 0 _ (List.getElem?_eq_getElem hpos)
          have hspot : spot = none := by simpa [Addr.add] using World.cell?_spot q0
          subst hspot
          refine ⟨b, off, rfl, trivial, fun j hj => ?_⟩
          obtain ⟨c0, c1, c2, q0, q1, q2, _⟩ := hall j _ (List.getElem?_eq_getElem hj)
          rw [add_plain] at q0 q1 q2
          rw [add_plain] at q1 q2
          exact ⟨c0, c1, c2, by simp [q0, q1, q2], q0, q1, q2⟩
        · intro j t hj
          have hlt := (List.getElem?_eq_some_iff.1 hj).1
          obtain ⟨c0, c1, c2, q0, q1, q2, hT⟩ := hall j t hj
          have hspot : spot = none := by
            obtain ⟨_, _, _, q, _⟩ := hall 0 _ (List.getElem?_eq_getElem (by omega : 0 < ts.length))
            simpa [Addr.add] using World.cell?_spot q
          subst hspot
          rw [add_plain] at q0 q1 q2
          rw [add_plain] at q1 q2
          simp only [q0, q1, q2, Option.getD_some]
          exact hT
end
section
variable {H : Type} {enc : TypeId × Value → H} {w : World}
set_option maxRecDepth 100000 in
theorem open_term {v : Value} {d : DataW H} {ps : List MemPlace} {B : Nat} (hv : Value.okWide Tryd.prog w .any B 25 v) (h : DataW.Trod enc Tryd.prog w 0 (fun _ => true) true 25 v d ps) : ∃ t, TR w Any t v := by
  obtain ⟨fuel, hf⟩ := h
  obtain ⟨cs, rfl, hs⟩ := okWide_struct Tryd.underlying25 hv
  obtain ⟨c0, c1, c2, t, e, hT⟩ := (open_fuel fuel).1 _ _ hf
  refine ⟨t, ?_⟩
  have : cs = #[c0, c1, c2] := by
    have e' : cs.toList = [c0, c1, c2] := e
    rw [← Array.toArray_toList (xs := cs), e']
  rw [this]; exact hT
set_option maxRecDepth 100000 in
theorem open_terms {v : Value} {d : DataW H} {ps : List MemPlace} {B : Nat} (hv : Value.okWide Tryd.prog w .any B 22 v) (h : DataW.Trod enc Tryd.prog w 0 (fun _ => true) true 22 v d ps) : ∃ ts, TS w Any ts v := by
  obtain ⟨fuel, hf⟩ := h
  obtain ⟨a, len, cap, rfl⟩ := okWide_slice Tryd.underlying22 hv
  obtain ⟨v, ts, e, hT⟩ := (open_fuel fuel).2 _ _ hf
  have e' : [Value.slice a len cap] = [v] := e
  cases e'
  exact ⟨ts, hT⟩
theorem laidOut : laidOutB Tryd.prog = true := by kernel_rfl
end
end Go.Proofs.YtfhpnkmhppfeiaaDoor
