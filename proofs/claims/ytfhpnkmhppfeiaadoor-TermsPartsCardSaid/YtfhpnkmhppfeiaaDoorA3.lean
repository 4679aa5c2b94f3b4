/- slices.Reverse of two terms. -/
import Derived.Test.YtfhpnkmhppfeiaaDoorB3
set_option linter.unusedVariables false
set_option linter.unusedSimpArgs false
namespace Go.Proofs.YtfhpnkmhppfeiaaDoor
open Go.RowKit Go.Proofs
set_option maxRecDepth 100000 in
set_option maxHeartbeats 1000000 in
theorem rev2_any (g cap : Nat) (x0 x1 x2 y0 y1 y2 : Value) (w : World) (tail : List Value)
    (hx0 : ∃ q z, x0 = .int q z) (hx1 : ∃ q z, x1 = .int q z) (hx2 : ∃ A n c, x2 = .slice A n c) (hy0 : ∃ q z, y0 = .int q z) (hy1 : ∃ q z, y1 = .int q z) (hy2 : ∃ A n c, y2 = .slice A n c)
    (hh : w.heap[g]? = some (.cells (x0 :: x1 :: x2 :: y0 :: y1 :: y2 :: tail).toArray 25 (0, 0))) :
    Calls Tryd.prog 64 #[.slice (some ⟨g, 0, none⟩) 2 cap] w fun e w' => e = .returned (.tuple #[]) ∧ w'.heap[g]? = some (.cells (y0 :: y1 :: y2 :: x0 :: x1 :: x2 :: tail).toArray 25 (0, 0)) ∧ Grew (fun b => b = g) w w' := by
  obtain ⟨q0, z0, rfl⟩ := hx0
  obtain ⟨q1, z1, rfl⟩ := hx1
  obtain ⟨A2, n2, c2, rfl⟩ := hx2
  obtain ⟨q3, z3, rfl⟩ := hy0
  obtain ⟨q4, z4, rfl⟩ := hy1
  obtain ⟨A5, n5, c5, rfl⟩ := hy2
  have f0 := (blk_cell hh 0).trans rfl
  have f1 := (blk_cell hh 1).trans rfl
  have f2 := (blk_cell hh 2).trans rfl
  have f3 := (blk_cell hh 3).trans rfl
  have f4 := (blk_cell hh 4).trans rfl
  have f5 := (blk_cell hh 5).trans rfl
  have e0 := blk_free hh 0
  have e1 := blk_free hh 1
  have e2 := blk_free hh 2
  have e3 := blk_free hh 3
  have e4 := blk_free hh 4
  have e5 := blk_free hh 5
  have HH := Lib.hid hh
  clear hh
  go_enter Tryd.func64, Tryd.ntmps64
  go_wp2_with fail
  refine wp_loop_rounds 2 ?_; rw [rounds_succ]
  go_wp2_with fail
  go_region
  go_wp2_with fail
  rw [rounds_succ]
  go_wp2_with fail
  go_end0
  refine ⟨rfl, ?_, ?_⟩
  · have := blk_set (blk_set (blk_set (blk_set (blk_set (blk_set HH.out 0 (.int q3 z3)) 1 (.int q4 z4)) 2 (.slice A5 n5 c5)) 3 (.int q0 z0)) 4 (.int q1 z1)) 5 (.slice A2 n2 c2)
    rw [show ∀ W : World, W.drew.heap = W.heap from fun _ => rfl, this]
    simp
  · refine Grew.trans ?_ (Grew.drew _ _)
    refine Grew.setCell (S := fun b => b = g) ?_ rfl _
    refine Grew.setCell (S := fun b => b = g) ?_ rfl _
    refine Grew.setCell (S := fun b => b = g) ?_ rfl _
    refine Grew.setCell (S := fun b => b = g) ?_ rfl _
    refine Grew.setCell (S := fun b => b = g) ?_ rfl _
    exact Grew.setCell (S := fun b => b = g) (Grew.refl _ _) rfl _
/-- slices.Reverse of two terms in a row of the call's own. -/
theorem reverse_any {base : Nat} {x y : Tm} {l : Value} {w : World} (h : OTS w base [x, y] l) :
    Calls Tryd.prog 64 #[l] w fun e w' => e = .returned (.tuple #[]) ∧ OTS w' base [y, x] l ∧ Grew (fun b => l.ownBlock = some b) w w' := by
  obtain ⟨cs, h, hr⟩ := h
  rcases h.2 with ⟨rfl, hn⟩ | ⟨g, cap, cur, rfl, hb, hh, hc1, hc2, hcur, htake⟩
  · simp at hn
  have hlen := h.1
  obtain ⟨x0, x1, x2, ex0, ex1, ex2, hx⟩ := hr 0 x rfl
  obtain ⟨y0, y1, y2, ey0, ey1, ey2, hy⟩ := hr 1 y rfl
  have shape : ∀ {D : Nat → Prop} {t : Tm} {a b c : Value}, TR w D t (.agg #[a, b, c]) → (∃ q z, a = .int q z) ∧ (∃ q z, b = .int q z) ∧ (∃ A n k, c = .slice A n k) := fun {D} {t} {a} {b} {c} hT => by
    obtain ⟨k, n, args⟩ := t
    obtain ⟨s, e, _, _, hs⟩ := hT.inv
    obtain ⟨A, cc, rfl, _⟩ := hs.form
    simp only [Value.agg.injEq, Array.mk.injEq, List.cons.injEq, and_true] at e
    obtain ⟨rfl, rfl, rfl⟩ := e
    exact ⟨⟨_, _, rfl⟩, ⟨_, _, rfl⟩, ⟨_, _, _, rfl⟩⟩
  have ecs : cs = [x0, x1, x2, y0, y1, y2] := by
    match cs, hlen with
    | [a, b, c, d, e, f], _ => simp_all
  subst ecs
  have ecur : cur = (x0 :: x1 :: x2 :: y0 :: y1 :: y2 :: cur.toList.drop 6).toArray := by
    have h6 : cur.toList.take 6 = [x0, x1, x2, y0, y1, y2] := htake
    have := List.take_append_drop 6 cur.toList
    rw [h6] at this
    rw [← Array.toList_inj]
    exact this.symm
  obtain ⟨a1, a2, a3⟩ := shape hx
  obtain ⟨b1, b2, b3⟩ := shape hy
  refine (rev2_any g cap x0 x1 x2 y0 y1 y2 w (cur.toList.drop 6) a1 a2 a3 b1 b2 b3 (by rw [← ecur]; exact hh)).mono ?_
  rintro e w' ⟨rfl, hh', hg⟩
  have keep : ∀ {t : Tm} {v : Value}, TR w (fun b => base ≤ b ∧ (Value.slice (some ⟨g, 0, none⟩) 2 cap).ownBlock ≠ some b) t v → TR w' (fun b => base ≤ b ∧ (Value.slice (some ⟨g, 0, none⟩) 2 cap).ownBlock ≠ some b) t v := fun hT => hT.grew hg fun k hk e => hk.2 (by rw [e]; rfl)
  refine ⟨rfl, ⟨[y0, y1, y2, x0, x1, x2], ⟨rfl, .inr ⟨g, cap, _, rfl, hb, hh', hc1, hc2, ?_, by simp⟩⟩, fun j a ha => ?_⟩, hg.mono fun k _ e => by rw [e]; rfl⟩
  · rw [← hcur]
    have := congrArg Array.size ecur
    simp at this ⊢
    omega
  · match j, ha with
    | 0, ha => simp at ha; subst ha; exact ⟨y0, y1, y2, rfl, rfl, rfl, keep hy⟩
    | 1, ha => simp at ha; subst ha; exact ⟨x0, x1, x2, rfl, rfl, rfl, keep hx⟩
end Go.Proofs.YtfhpnkmhppfeiaaDoor
