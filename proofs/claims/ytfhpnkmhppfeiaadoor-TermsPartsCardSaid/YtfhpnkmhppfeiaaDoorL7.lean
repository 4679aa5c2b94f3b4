/- The law TermsParts, walked. -/
import Derived.Test.YtfhpnkmhppfeiaaDoorP2
import Derived.Test.YtfhpnkmhppfeiaaDoorR12
set_option linter.unusedVariables false
set_option linter.unusedSimpArgs false
namespace Go.Proofs.YtfhpnkmhppfeiaaDoor
open Go.RowKit Go.Proofs
/-- The world within the law: the boxed term. -/
structure PW (w : World) (cx : Array Value) (wr : World) : Prop where
  hb : Below w.heap.size w wr
  hx : wr.heap[w.heap.size]? = some (.cells cx 25 (0, 0))
theorem PW.bel {w wr w1 : World} {cx : Array Value} (h : PW w cx wr) (hb : Below wr.heap.size wr w1) : PW w cx w1 :=
  ⟨bthen h.hb hb, (hb.block _ (Array.getElem?_eq_some_iff.1 h.hx).1).trans h.hx⟩
set_option maxRecDepth 100000 in
set_option maxHeartbeats 2000000 in
theorem parts_law (t : Tm) (n : Int) (v : Value) (w : World) (hT : TR w Any t v) (hn : i64 n) (hTab : Tab w) :
    Calls Tryd.prog 7 #[v, .int .i64 n] w fun e w' => e = .returned (.bool true) ∧ Below w.heap.size w w' := by
  obtain ⟨A, c, rfl⟩ := hT.form3
  have HT := Lib.hid hT
  have HTab := Lib.hid hTab
  have HN := Lib.hid hn
  clear hT hTab hn
  have C12 : Hid (∀ w1, Below w.heap.size w w1 → Calls Tryd.prog 12 #[] w1 fun e w' => e = .returned (.bool true) ∧ Below w1.heap.size w1 w') := fun w1 hb => known_any w1 (HTab.out.bel hb)
  have C14 : Hid (∀ w1, Below w.heap.size w w1 → Calls Tryd.prog 14 #[.agg #[.int .i64 t.k, .int .i64 t.n, .slice A t.args.length c], .int .i64 301] w1 fun e w' => e = .returned (.int .i64 (sizeM t 301 : Nat)) ∧ Below w1.heap.size w1 w') := fun w1 hb => Size_any _ t _ 301 w1 (Nat.le_refl _) (by omega) (HT.out.bel hb)
  have HX := Lib.hid (show PW w #[.int .i64 t.k, .int .i64 t.n, .slice A t.args.length c] (w.alloc (.cells #[.int .i64 t.k, .int .i64 t.n, .slice A t.args.length c] 25)) from ⟨bself w _, heap_alloc_new _ _⟩)
  obtain ⟨W2, hW2⟩ : ∃ W2 : World, W2 = w.alloc (.cells #[.int .i64 t.k, .int .i64 t.n, .slice A t.args.length c] 25) := ⟨_, rfl⟩
  rw [← hW2] at HX
  go_enter Tryd.func7, Tryd.ntmps7
  by_cases h : 300 < size t
  · have e2 : ((sizeM t 301 : Nat) : Int) > 300 := by unfold sizeM; omega
    go_wp2_with fail
    rw [← hW2]
    clear hW2
    go_wp2_with (first
      | (go_at_call 14; with_reducible refine (C14.out _ HX.out.hb).mono ?_; rintro e w1 ⟨rfl, hb⟩; have HX := Lib.hid (HX.out.bel hb); clear hb)
      | (go_at_call 12; with_reducible refine (C12.out _ HX.out.hb).mono ?_; rintro e w1 ⟨rfl, hb⟩; have HX := Lib.hid (HX.out.bel hb); clear hb))
    go_ret
    exact ⟨rfl, HX.out.hb⟩
  · have e2 : ((sizeM t 301 : Nat) : Int) ≤ 300 := by unfold sizeM; omega
    have C230 : Hid (∀ w1, Below w.heap.size w w1 → Calls Tryd.prog 23 #[.agg #[.int .i64 t.k, .int .i64 t.n, .slice A t.args.length c], .int .i64 0] w1 fun e w' => e = .returned (.bool true) ∧ Below w1.heap.size w1 w') := fun w1 hb => once_any t _ 0 (by unfold i64; omega) w1 (HT.out.bel hb) (by omega)
    have C23 : Hid (∀ w1, Below w.heap.size w w1 → Calls Tryd.prog 23 #[.agg #[.int .i64 t.k, .int .i64 t.n, .slice A t.args.length c], .int .i64 n] w1 fun e w' => e = .returned (.bool true) ∧ Below w1.heap.size w1 w') := fun w1 hb => once_any t _ n HN.out w1 (HT.out.bel hb) (by omega)
    go_wp2_with fail
    rw [← hW2]
    clear hW2
    go_wp2_with (first
      | (go_at_call 14; with_reducible refine (C14.out _ HX.out.hb).mono ?_; rintro e w1 ⟨rfl, hb⟩; have HX := Lib.hid (HX.out.bel hb); clear hb; have r0 := (blk_cell HX.out.hx 0).trans rfl; have r1 := (blk_cell HX.out.hx 1).trans rfl; have r2 := (blk_cell HX.out.hx 2).trans rfl)
      | (go_at_call 23; (first | (with_reducible refine (C230.out _ HX.out.hb).mono ?_) | (with_reducible refine (C23.out _ HX.out.hb).mono ?_)); rintro e w1 ⟨rfl, hb⟩; have HX := Lib.hid (HX.out.bel hb); clear hb r0 r1 r2; have r0 := (blk_cell HX.out.hx 0).trans rfl; have r1 := (blk_cell HX.out.hx 1).trans rfl; have r2 := (blk_cell HX.out.hx 2).trans rfl)
      | (go_at_call 12; with_reducible refine (C12.out _ HX.out.hb).mono ?_; rintro e w1 ⟨rfl, hb⟩; have HX := Lib.hid (HX.out.bel hb); clear hb))
    go_ret
    exact ⟨rfl, HX.out.hb⟩
end Go.Proofs.YtfhpnkmhppfeiaaDoor
