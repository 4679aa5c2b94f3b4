/- The law TermsMeans, walked. -/
import Derived.Test.YtfhpnkmhppfeiaaDoorR12
import Derived.Test.YtfhpnkmhppfeiaaDoorR13
import Derived.Test.YtfhpnkmhppfeiaaDoorR7
set_option linter.unusedVariables false
set_option linter.unusedSimpArgs false
namespace Go.Proofs.YtfhpnkmhppfeiaaDoor
open Go.RowKit Go.Proofs
/-- The world within the law: two boxed terms. -/
structure MW (w : World) (cg cm : Array Value) (wr : World) : Prop where
  hb : Below w.heap.size w wr
  h4 : wr.heap[w.heap.size]? = some (.cells cg 25 (0, 0))
  h5 : wr.heap[w.heap.size + 1]? = some (.cells cm 25 (0, 0))
theorem MW.bel {w wr w1 : World} {cg cm : Array Value} (h : MW w cg cm wr) (hb : Below wr.heap.size wr w1) : MW w cg cm w1 :=
  ⟨bthen h.hb hb, (hb.block _ (Array.getElem?_eq_some_iff.1 h.h4).1).trans h.h4, (hb.block _ (Array.getElem?_eq_some_iff.1 h.h5).1).trans h.h5⟩
theorem MW.start (w : World) (cg cm : Array Value) : MW w cg cm ((w.alloc (.cells cg 25)).alloc (.cells cm 25)) := by
  refine ⟨balloc (bself w _) _, ?_, heap_alloc2 _ _ _⟩
  rw [Below.heap_alloc _ _ _ (by simp)]; exact heap_alloc_new _ _
theorem sizeM_gt {t : Tm} (h : 300 < size t) : ((sizeM t 301 : Nat) : Int) > 300 := by unfold sizeM; omega
theorem sizeM_le {t : Tm} (h : ¬ 300 < size t) : ((sizeM t 301 : Nat) : Int) ≤ 300 := by unfold sizeM; omega
set_option maxRecDepth 100000 in
set_option maxHeartbeats 4000000 in
theorem means_any (L : List Tm) (g m : Tm) (vl vg vm : Value) (w : World) (hT : TS w Any L vl) (hG : TR w Any g vg) (hM : TR w Any m vm) (hTab : Tab w) :
    Calls Tryd.prog 3 #[vl, vg, vm] w fun e w' => e = .returned (.bool true) ∧ Below w.heap.size w w' := by
  obtain ⟨A, c, rfl, hc1, hc2⟩ := hT.form
  obtain ⟨Ag, cg, rfl⟩ := hG.form3
  obtain ⟨Am, cm, rfl⟩ := hM.form3
  have HT := Lib.hid hT
  have HG := Lib.hid hG
  have HM := Lib.hid hM
  have HTab := Lib.hid hTab
  clear hT hG hM hTab
  have C12 : Hid (∀ w1, Below w.heap.size w w1 → Calls Tryd.prog 12 #[] w1 fun e w' => e = .returned (.bool true) ∧ Below w1.heap.size w1 w') := fun w1 hb => known_any w1 (HTab.out.bel hb)
  have C13 : Hid (∀ w1, Below w.heap.size w w1 → Calls Tryd.prog 13 #[.slice A L.length c] w1 fun e w' => e = .returned (.bool (muchS L)) ∧ Below w1.heap.size w1 w') := fun w1 hb => Much_any L _ w1 (HT.out.bel hb)
  have C14g : Hid (∀ w1, Below w.heap.size w w1 → Calls Tryd.prog 14 #[.agg #[.int .i64 g.k, .int .i64 g.n, .slice Ag g.args.length cg], .int .i64 301] w1 fun e w' => e = .returned (.int .i64 (sizeM g 301 : Nat)) ∧ Below w1.heap.size w1 w') := fun w1 hb => Size_any _ g _ 301 w1 (Nat.le_refl _) (by omega) (HG.out.bel hb)
  have C14m : Hid (∀ w1, Below w.heap.size w w1 → Calls Tryd.prog 14 #[.agg #[.int .i64 m.k, .int .i64 m.n, .slice Am m.args.length cm], .int .i64 301] w1 fun e w' => e = .returned (.int .i64 (sizeM m 301 : Nat)) ∧ Below w1.heap.size w1 w') := fun w1 hb => Size_any _ m _ 301 w1 (Nat.le_refl _) (by omega) (HM.out.bel hb)
  have C15 : Hid (∀ w1, Below w.heap.size w w1 → Calls Tryd.prog 15 #[.slice A L.length c] w1 fun e w' => e = .returned (.bool (L.all may)) ∧ Below w1.heap.size w1 w') := fun w1 hb => all_any L _ w1 (HT.out.bel hb)
  have C16g : Hid (∀ w1, Below w.heap.size w w1 → Calls Tryd.prog 16 #[.agg #[.int .i64 g.k, .int .i64 g.n, .slice Ag g.args.length cg]] w1 fun e w' => e = .returned (.bool (may g)) ∧ Below w1.heap.size w1 w') := fun w1 hb => rMay_any g _ w1 (HG.out.bel hb)
  have C16m : Hid (∀ w1, Below w.heap.size w w1 → Calls Tryd.prog 16 #[.agg #[.int .i64 m.k, .int .i64 m.n, .slice Am m.args.length cm]] w1 fun e w' => e = .returned (.bool (may m)) ∧ Below w1.heap.size w1 w') := fun w1 hb => rMay_any m _ w1 (HM.out.bel hb)
  have HW := Lib.hid (MW.start w #[.int .i64 g.k, .int .i64 g.n, .slice Ag g.args.length cg] #[.int .i64 m.k, .int .i64 m.n, .slice Am m.args.length cm])
  obtain ⟨W2, hW2⟩ : ∃ W2 : World, W2 = (w.alloc (.cells #[.int .i64 g.k, .int .i64 g.n, .slice Ag g.args.length cg] 25)).alloc (.cells #[.int .i64 m.k, .int .i64 m.n, .slice Am m.args.length cm] 25) := ⟨_, rfl⟩
  rw [← hW2] at HW
  go_enter Tryd.func3, Tryd.ntmps3
  go_wp2_with fail
  rw [← hW2]
  clear hW2
  have r0 := (blk_cell HW.out.h4 0).trans rfl; have r1 := (blk_cell HW.out.h4 1).trans rfl; have r2 := (blk_cell HW.out.h4 2).trans rfl; have t0 := (blk_cell HW.out.h5 0).trans rfl; have t1 := (blk_cell HW.out.h5 1).trans rfl; have t2 := (blk_cell HW.out.h5 2).trans rfl
  cases h1 : muchS L with
  | true =>
    go_wp2_with (first
      | (go_at_call 12; with_reducible refine (C12.out _ HW.out.hb).mono ?_; rintro e w1 ⟨rfl, hb⟩; have HW := Lib.hid (HW.out.bel hb); clear hb r0 r1 r2 t0 t1 t2; have r0 := (blk_cell HW.out.h4 0).trans rfl; have r1 := (blk_cell HW.out.h4 1).trans rfl; have r2 := (blk_cell HW.out.h4 2).trans rfl; have t0 := (blk_cell HW.out.h5 0).trans rfl; have t1 := (blk_cell HW.out.h5 1).trans rfl; have t2 := (blk_cell HW.out.h5 2).trans rfl)
      | (go_at_call 13; with_reducible refine (C13.out _ HW.out.hb).mono ?_; rintro e w1 ⟨rfl, hb⟩; have HW := Lib.hid (HW.out.bel hb); clear hb r0 r1 r2 t0 t1 t2; have r0 := (blk_cell HW.out.h4 0).trans rfl; have r1 := (blk_cell HW.out.h4 1).trans rfl; have r2 := (blk_cell HW.out.h4 2).trans rfl; have t0 := (blk_cell HW.out.h5 0).trans rfl; have t1 := (blk_cell HW.out.h5 1).trans rfl; have t2 := (blk_cell HW.out.h5 2).trans rfl))
    go_ret
    exact ⟨rfl, HW.out.hb⟩
  | false =>
  have HMU := Lib.hid (muchS_no h1)
  by_cases h2 : 300 < size g
  · have e2 := sizeM_gt h2
    clear h2
    go_wp2_with (first
      | (go_at_call 12; with_reducible refine (C12.out _ HW.out.hb).mono ?_; rintro e w1 ⟨rfl, hb⟩; have HW := Lib.hid (HW.out.bel hb); clear hb r0 r1 r2 t0 t1 t2; have r0 := (blk_cell HW.out.h4 0).trans rfl; have r1 := (blk_cell HW.out.h4 1).trans rfl; have r2 := (blk_cell HW.out.h4 2).trans rfl; have t0 := (blk_cell HW.out.h5 0).trans rfl; have t1 := (blk_cell HW.out.h5 1).trans rfl; have t2 := (blk_cell HW.out.h5 2).trans rfl)
      | (go_at_call 13; with_reducible refine (C13.out _ HW.out.hb).mono ?_; rintro e w1 ⟨rfl, hb⟩; have HW := Lib.hid (HW.out.bel hb); clear hb r0 r1 r2 t0 t1 t2; have r0 := (blk_cell HW.out.h4 0).trans rfl; have r1 := (blk_cell HW.out.h4 1).trans rfl; have r2 := (blk_cell HW.out.h4 2).trans rfl; have t0 := (blk_cell HW.out.h5 0).trans rfl; have t1 := (blk_cell HW.out.h5 1).trans rfl; have t2 := (blk_cell HW.out.h5 2).trans rfl)
      | (go_at_call 14; with_reducible refine (C14g.out _ HW.out.hb).mono ?_; rintro e w1 ⟨rfl, hb⟩; have HW := Lib.hid (HW.out.bel hb); clear hb r0 r1 r2 t0 t1 t2; have r0 := (blk_cell HW.out.h4 0).trans rfl; have r1 := (blk_cell HW.out.h4 1).trans rfl; have r2 := (blk_cell HW.out.h4 2).trans rfl; have t0 := (blk_cell HW.out.h5 0).trans rfl; have t1 := (blk_cell HW.out.h5 1).trans rfl; have t2 := (blk_cell HW.out.h5 2).trans rfl))
    go_ret
    exact ⟨rfl, HW.out.hb⟩
  have e2 := sizeM_le h2
  by_cases h3 : 300 < size m
  · have e3 := sizeM_gt h3
    clear h2 h3
    go_wp2_with (first
      | (go_at_call 12; with_reducible refine (C12.out _ HW.out.hb).mono ?_; rintro e w1 ⟨rfl, hb⟩; have HW := Lib.hid (HW.out.bel hb); clear hb r0 r1 r2 t0 t1 t2; have r0 := (blk_cell HW.out.h4 0).trans rfl; have r1 := (blk_cell HW.out.h4 1).trans rfl; have r2 := (blk_cell HW.out.h4 2).trans rfl; have t0 := (blk_cell HW.out.h5 0).trans rfl; have t1 := (blk_cell HW.out.h5 1).trans rfl; have t2 := (blk_cell HW.out.h5 2).trans rfl)
      | (go_at_call 13; with_reducible refine (C13.out _ HW.out.hb).mono ?_; rintro e w1 ⟨rfl, hb⟩; have HW := Lib.hid (HW.out.bel hb); clear hb r0 r1 r2 t0 t1 t2; have r0 := (blk_cell HW.out.h4 0).trans rfl; have r1 := (blk_cell HW.out.h4 1).trans rfl; have r2 := (blk_cell HW.out.h4 2).trans rfl; have t0 := (blk_cell HW.out.h5 0).trans rfl; have t1 := (blk_cell HW.out.h5 1).trans rfl; have t2 := (blk_cell HW.out.h5 2).trans rfl)
      | (go_at_call 14; with_reducible refine (C14g.out _ HW.out.hb).mono ?_; rintro e w1 ⟨rfl, hb⟩; have HW := Lib.hid (HW.out.bel hb); clear hb r0 r1 r2 t0 t1 t2; have r0 := (blk_cell HW.out.h4 0).trans rfl; have r1 := (blk_cell HW.out.h4 1).trans rfl; have r2 := (blk_cell HW.out.h4 2).trans rfl; have t0 := (blk_cell HW.out.h5 0).trans rfl; have t1 := (blk_cell HW.out.h5 1).trans rfl; have t2 := (blk_cell HW.out.h5 2).trans rfl)
      | (go_at_call 14; with_reducible refine (C14m.out _ HW.out.hb).mono ?_; rintro e w1 ⟨rfl, hb⟩; have HW := Lib.hid (HW.out.bel hb); clear hb r0 r1 r2 t0 t1 t2; have r0 := (blk_cell HW.out.h4 0).trans rfl; have r1 := (blk_cell HW.out.h4 1).trans rfl; have r2 := (blk_cell HW.out.h4 2).trans rfl; have t0 := (blk_cell HW.out.h5 0).trans rfl; have t1 := (blk_cell HW.out.h5 1).trans rfl; have t2 := (blk_cell HW.out.h5 2).trans rfl))
    go_ret
    exact ⟨rfl, HW.out.hb⟩
  have e3 := sizeM_le h3
  cases h4 : L.all may with
  | false =>
    clear h2 h3
    go_wp2_with (first
      | (go_at_call 12; with_reducible refine (C12.out _ HW.out.hb).mono ?_; rintro e w1 ⟨rfl, hb⟩; have HW := Lib.hid (HW.out.bel hb); clear hb r0 r1 r2 t0 t1 t2; have r0 := (blk_cell HW.out.h4 0).trans rfl; have r1 := (blk_cell HW.out.h4 1).trans rfl; have r2 := (blk_cell HW.out.h4 2).trans rfl; have t0 := (blk_cell HW.out.h5 0).trans rfl; have t1 := (blk_cell HW.out.h5 1).trans rfl; have t2 := (blk_cell HW.out.h5 2).trans rfl)
      | (go_at_call 13; with_reducible refine (C13.out _ HW.out.hb).mono ?_; rintro e w1 ⟨rfl, hb⟩; have HW := Lib.hid (HW.out.bel hb); clear hb r0 r1 r2 t0 t1 t2; have r0 := (blk_cell HW.out.h4 0).trans rfl; have r1 := (blk_cell HW.out.h4 1).trans rfl; have r2 := (blk_cell HW.out.h4 2).trans rfl; have t0 := (blk_cell HW.out.h5 0).trans rfl; have t1 := (blk_cell HW.out.h5 1).trans rfl; have t2 := (blk_cell HW.out.h5 2).trans rfl)
      | (go_at_call 14; with_reducible refine (C14g.out _ HW.out.hb).mono ?_; rintro e w1 ⟨rfl, hb⟩; have HW := Lib.hid (HW.out.bel hb); clear hb r0 r1 r2 t0 t1 t2; have r0 := (blk_cell HW.out.h4 0).trans rfl; have r1 := (blk_cell HW.out.h4 1).trans rfl; have r2 := (blk_cell HW.out.h4 2).trans rfl; have t0 := (blk_cell HW.out.h5 0).trans rfl; have t1 := (blk_cell HW.out.h5 1).trans rfl; have t2 := (blk_cell HW.out.h5 2).trans rfl)
      | (go_at_call 14; with_reducible refine (C14m.out _ HW.out.hb).mono ?_; rintro e w1 ⟨rfl, hb⟩; have HW := Lib.hid (HW.out.bel hb); clear hb r0 r1 r2 t0 t1 t2; have r0 := (blk_cell HW.out.h4 0).trans rfl; have r1 := (blk_cell HW.out.h4 1).trans rfl; have r2 := (blk_cell HW.out.h4 2).trans rfl; have t0 := (blk_cell HW.out.h5 0).trans rfl; have t1 := (blk_cell HW.out.h5 1).trans rfl; have t2 := (blk_cell HW.out.h5 2).trans rfl)
      | (go_at_call 15; with_reducible refine (C15.out _ HW.out.hb).mono ?_; rintro e w1 ⟨rfl, hb⟩; have HW := Lib.hid (HW.out.bel hb); clear hb r0 r1 r2 t0 t1 t2; have r0 := (blk_cell HW.out.h4 0).trans rfl; have r1 := (blk_cell HW.out.h4 1).trans rfl; have r2 := (blk_cell HW.out.h4 2).trans rfl; have t0 := (blk_cell HW.out.h5 0).trans rfl; have t1 := (blk_cell HW.out.h5 1).trans rfl; have t2 := (blk_cell HW.out.h5 2).trans rfl))
    go_ret
    exact ⟨rfl, HW.out.hb⟩
  | true =>
  cases h5 : may g with
  | false =>
    clear h2 h3
    go_wp2_with (first
      | (go_at_call 12; with_reducible refine (C12.out _ HW.out.hb).mono ?_; rintro e w1 ⟨rfl, hb⟩; have HW := Lib.hid (HW.out.bel hb); clear hb r0 r1 r2 t0 t1 t2; have r0 := (blk_cell HW.out.h4 0).trans rfl; have r1 := (blk_cell HW.out.h4 1).trans rfl; have r2 := (blk_cell HW.out.h4 2).trans rfl; have t0 := (blk_cell HW.out.h5 0).trans rfl; have t1 := (blk_cell HW.out.h5 1).trans rfl; have t2 := (blk_cell HW.out.h5 2).trans rfl)
      | (go_at_call 13; with_reducible refine (C13.out _ HW.out.hb).mono ?_; rintro e w1 ⟨rfl, hb⟩; have HW := Lib.hid (HW.out.bel hb); clear hb r0 r1 r2 t0 t1 t2; have r0 := (blk_cell HW.out.h4 0).trans rfl; have r1 := (blk_cell HW.out.h4 1).trans rfl; have r2 := (blk_cell HW.out.h4 2).trans rfl; have t0 := (blk_cell HW.out.h5 0).trans rfl; have t1 := (blk_cell HW.out.h5 1).trans rfl; have t2 := (blk_cell HW.out.h5 2).trans rfl)
      | (go_at_call 14; with_reducible refine (C14g.out _ HW.out.hb).mono ?_; rintro e w1 ⟨rfl, hb⟩; have HW := Lib.hid (HW.out.bel hb); clear hb r0 r1 r2 t0 t1 t2; have r0 := (blk_cell HW.out.h4 0).trans rfl; have r1 := (blk_cell HW.out.h4 1).trans rfl; have r2 := (blk_cell HW.out.h4 2).trans rfl; have t0 := (blk_cell HW.out.h5 0).trans rfl; have t1 := (blk_cell HW.out.h5 1).trans rfl; have t2 := (blk_cell HW.out.h5 2).trans rfl)
      | (go_at_call 14; with_reducible refine (C14m.out _ HW.out.hb).mono ?_; rintro e w1 ⟨rfl, hb⟩; have HW := Lib.hid (HW.out.bel hb); clear hb r0 r1 r2 t0 t1 t2; have r0 := (blk_cell HW.out.h4 0).trans rfl; have r1 := (blk_cell HW.out.h4 1).trans rfl; have r2 := (blk_cell HW.out.h4 2).trans rfl; have t0 := (blk_cell HW.out.h5 0).trans rfl; have t1 := (blk_cell HW.out.h5 1).trans rfl; have t2 := (blk_cell HW.out.h5 2).trans rfl)
      | (go_at_call 15; with_reducible refine (C15.out _ HW.out.hb).mono ?_; rintro e w1 ⟨rfl, hb⟩; have HW := Lib.hid (HW.out.bel hb); clear hb r0 r1 r2 t0 t1 t2; have r0 := (blk_cell HW.out.h4 0).trans rfl; have r1 := (blk_cell HW.out.h4 1).trans rfl; have r2 := (blk_cell HW.out.h4 2).trans rfl; have t0 := (blk_cell HW.out.h5 0).trans rfl; have t1 := (blk_cell HW.out.h5 1).trans rfl; have t2 := (blk_cell HW.out.h5 2).trans rfl)
      | (go_at_call 16; with_reducible refine (C16g.out _ HW.out.hb).mono ?_; rintro e w1 ⟨rfl, hb⟩; have HW := Lib.hid (HW.out.bel hb); clear hb r0 r1 r2 t0 t1 t2; have r0 := (blk_cell HW.out.h4 0).trans rfl; have r1 := (blk_cell HW.out.h4 1).trans rfl; have r2 := (blk_cell HW.out.h4 2).trans rfl; have t0 := (blk_cell HW.out.h5 0).trans rfl; have t1 := (blk_cell HW.out.h5 1).trans rfl; have t2 := (blk_cell HW.out.h5 2).trans rfl))
    go_ret
    exact ⟨rfl, HW.out.hb⟩
  | true =>
  cases h6 : may m with
  | false =>
    clear h2 h3
    go_wp2_with (first
      | (go_at_call 12; with_reducible refine (C12.out _ HW.out.hb).mono ?_; rintro e w1 ⟨rfl, hb⟩; have HW := Lib.hid (HW.out.bel hb); clear hb r0 r1 r2 t0 t1 t2; have r0 := (blk_cell HW.out.h4 0).trans rfl; have r1 := (blk_cell HW.out.h4 1).trans rfl; have r2 := (blk_cell HW.out.h4 2).trans rfl; have t0 := (blk_cell HW.out.h5 0).trans rfl; have t1 := (blk_cell HW.out.h5 1).trans rfl; have t2 := (blk_cell HW.out.h5 2).trans rfl)
      | (go_at_call 13; with_reducible refine (C13.out _ HW.out.hb).mono ?_; rintro e w1 ⟨rfl, hb⟩; have HW := Lib.hid (HW.out.bel hb); clear hb r0 r1 r2 t0 t1 t2; have r0 := (blk_cell HW.out.h4 0).trans rfl; have r1 := (blk_cell HW.out.h4 1).trans rfl; have r2 := (blk_cell HW.out.h4 2).trans rfl; have t0 := (blk_cell HW.out.h5 0).trans rfl; have t1 := (blk_cell HW.out.h5 1).trans rfl; have t2 := (blk_cell HW.out.h5 2).trans rfl)
      | (go_at_call 14; with_reducible refine (C14g.out _ HW.out.hb).mono ?_; rintro e w1 ⟨rfl, hb⟩; have HW := Lib.hid (HW.out.bel hb); clear hb r0 r1 r2 t0 t1 t2; have r0 := (blk_cell HW.out.h4 0).trans rfl; have r1 := (blk_cell HW.out.h4 1).trans rfl; have r2 := (blk_cell HW.out.h4 2).trans rfl; have t0 := (blk_cell HW.out.h5 0).trans rfl; have t1 := (blk_cell HW.out.h5 1).trans rfl; have t2 := (blk_cell HW.out.h5 2).trans rfl)
      | (go_at_call 14; with_reducible refine (C14m.out _ HW.out.hb).mono ?_; rintro e w1 ⟨rfl, hb⟩; have HW := Lib.hid (HW.out.bel hb); clear hb r0 r1 r2 t0 t1 t2; have r0 := (blk_cell HW.out.h4 0).trans rfl; have r1 := (blk_cell HW.out.h4 1).trans rfl; have r2 := (blk_cell HW.out.h4 2).trans rfl; have t0 := (blk_cell HW.out.h5 0).trans rfl; have t1 := (blk_cell HW.out.h5 1).trans rfl; have t2 := (blk_cell HW.out.h5 2).trans rfl)
      | (go_at_call 15; with_reducible refine (C15.out _ HW.out.hb).mono ?_; rintro e w1 ⟨rfl, hb⟩; have HW := Lib.hid (HW.out.bel hb); clear hb r0 r1 r2 t0 t1 t2; have r0 := (blk_cell HW.out.h4 0).trans rfl; have r1 := (blk_cell HW.out.h4 1).trans rfl; have r2 := (blk_cell HW.out.h4 2).trans rfl; have t0 := (blk_cell HW.out.h5 0).trans rfl; have t1 := (blk_cell HW.out.h5 1).trans rfl; have t2 := (blk_cell HW.out.h5 2).trans rfl)
      | (go_at_call 16; with_reducible refine (C16g.out _ HW.out.hb).mono ?_; rintro e w1 ⟨rfl, hb⟩; have HW := Lib.hid (HW.out.bel hb); clear hb r0 r1 r2 t0 t1 t2; have r0 := (blk_cell HW.out.h4 0).trans rfl; have r1 := (blk_cell HW.out.h4 1).trans rfl; have r2 := (blk_cell HW.out.h4 2).trans rfl; have t0 := (blk_cell HW.out.h5 0).trans rfl; have t1 := (blk_cell HW.out.h5 1).trans rfl; have t2 := (blk_cell HW.out.h5 2).trans rfl)
      | (go_at_call 16; with_reducible refine (C16m.out _ HW.out.hb).mono ?_; rintro e w1 ⟨rfl, hb⟩; have HW := Lib.hid (HW.out.bel hb); clear hb r0 r1 r2 t0 t1 t2; have r0 := (blk_cell HW.out.h4 0).trans rfl; have r1 := (blk_cell HW.out.h4 1).trans rfl; have r2 := (blk_cell HW.out.h4 2).trans rfl; have t0 := (blk_cell HW.out.h5 0).trans rfl; have t1 := (blk_cell HW.out.h5 1).trans rfl; have t2 := (blk_cell HW.out.h5 2).trans rfl))
    go_ret
    exact ⟨rfl, HW.out.hb⟩
  | true =>
  have HML : Hid (mayL L = true) := mayL_iff.2 ⟨by have := HMU.out.1; omega, fun t ht => by rw [List.all_eq_true] at h4; exact h4 t ht⟩
  have HS : Hid (size g ≤ 300 ∧ size m ≤ 300) := ⟨by omega, by omega⟩
  clear h2 h3
  go_wp2_with (first
    | (go_at_call 12; with_reducible refine (C12.out _ HW.out.hb).mono ?_; rintro e w1 ⟨rfl, hb⟩; have HW := Lib.hid (HW.out.bel hb); clear hb r0 r1 r2 t0 t1 t2; have r0 := (blk_cell HW.out.h4 0).trans rfl; have r1 := (blk_cell HW.out.h4 1).trans rfl; have r2 := (blk_cell HW.out.h4 2).trans rfl; have t0 := (blk_cell HW.out.h5 0).trans rfl; have t1 := (blk_cell HW.out.h5 1).trans rfl; have t2 := (blk_cell HW.out.h5 2).trans rfl)
    | (go_at_call 13; with_reducible refine (C13.out _ HW.out.hb).mono ?_; rintro e w1 ⟨rfl, hb⟩; have HW := Lib.hid (HW.out.bel hb); clear hb r0 r1 r2 t0 t1 t2; have r0 := (blk_cell HW.out.h4 0).trans rfl; have r1 := (blk_cell HW.out.h4 1).trans rfl; have r2 := (blk_cell HW.out.h4 2).trans rfl; have t0 := (blk_cell HW.out.h5 0).trans rfl; have t1 := (blk_cell HW.out.h5 1).trans rfl; have t2 := (blk_cell HW.out.h5 2).trans rfl)
    | (go_at_call 14; with_reducible refine (C14g.out _ HW.out.hb).mono ?_; rintro e w1 ⟨rfl, hb⟩; have HW := Lib.hid (HW.out.bel hb); clear hb r0 r1 r2 t0 t1 t2; have r0 := (blk_cell HW.out.h4 0).trans rfl; have r1 := (blk_cell HW.out.h4 1).trans rfl; have r2 := (blk_cell HW.out.h4 2).trans rfl; have t0 := (blk_cell HW.out.h5 0).trans rfl; have t1 := (blk_cell HW.out.h5 1).trans rfl; have t2 := (blk_cell HW.out.h5 2).trans rfl)
    | (go_at_call 14; with_reducible refine (C14m.out _ HW.out.hb).mono ?_; rintro e w1 ⟨rfl, hb⟩; have HW := Lib.hid (HW.out.bel hb); clear hb r0 r1 r2 t0 t1 t2; have r0 := (blk_cell HW.out.h4 0).trans rfl; have r1 := (blk_cell HW.out.h4 1).trans rfl; have r2 := (blk_cell HW.out.h4 2).trans rfl; have t0 := (blk_cell HW.out.h5 0).trans rfl; have t1 := (blk_cell HW.out.h5 1).trans rfl; have t2 := (blk_cell HW.out.h5 2).trans rfl)
    | (go_at_call 15; with_reducible refine (C15.out _ HW.out.hb).mono ?_; rintro e w1 ⟨rfl, hb⟩; have HW := Lib.hid (HW.out.bel hb); clear hb r0 r1 r2 t0 t1 t2; have r0 := (blk_cell HW.out.h4 0).trans rfl; have r1 := (blk_cell HW.out.h4 1).trans rfl; have r2 := (blk_cell HW.out.h4 2).trans rfl; have t0 := (blk_cell HW.out.h5 0).trans rfl; have t1 := (blk_cell HW.out.h5 1).trans rfl; have t2 := (blk_cell HW.out.h5 2).trans rfl)
    | (go_at_call 16; with_reducible refine (C16g.out _ HW.out.hb).mono ?_; rintro e w1 ⟨rfl, hb⟩; have HW := Lib.hid (HW.out.bel hb); clear hb r0 r1 r2 t0 t1 t2; have r0 := (blk_cell HW.out.h4 0).trans rfl; have r1 := (blk_cell HW.out.h4 1).trans rfl; have r2 := (blk_cell HW.out.h4 2).trans rfl; have t0 := (blk_cell HW.out.h5 0).trans rfl; have t1 := (blk_cell HW.out.h5 1).trans rfl; have t2 := (blk_cell HW.out.h5 2).trans rfl)
    | (go_at_call 16; with_reducible refine (C16m.out _ HW.out.hb).mono ?_; rintro e w1 ⟨rfl, hb⟩; have HW := Lib.hid (HW.out.bel hb); clear hb r0 r1 r2 t0 t1 t2; have r0 := (blk_cell HW.out.h4 0).trans rfl; have r1 := (blk_cell HW.out.h4 1).trans rfl; have r2 := (blk_cell HW.out.h4 2).trans rfl; have t0 := (blk_cell HW.out.h5 0).trans rfl; have t1 := (blk_cell HW.out.h5 1).trans rfl; have t2 := (blk_cell HW.out.h5 2).trans rfl))
  clear e2 e3 h1 h4
  clear r0 r1 r2 t0 t1 t2
  go_loopw [7] (fun i wr => ∃ (j : Nat), i = .int .i64 j ∧ j ≤ L.length ∧ Hid (MW w #[.int .i64 g.k, .int .i64 g.n, .slice Ag g.args.length cg] #[.int .i64 m.k, .int .i64 m.n, .slice Am m.args.length cm] wr)) (fun i _ => L.length - (intOf i).toNat)
  case atStart => exact ⟨0, rfl, Nat.zero_le _, HW⟩
  case round =>
    obtain ⟨j, rfl, hj, HW⟩ := hrel
    by_cases hlt : j < L.length
    · obtain ⟨a, ha⟩ : ∃ a, L[j]? = some a := ⟨_, List.getElem?_eq_getElem hlt⟩
      obtain ⟨b, o, A2, cc, rfl, _, hbs, c0, c1, c2, hTa⟩ := HT.out.at_ ha
      have d0 := (HW.out.hb.cell (p := ⟨b, o + j * 3, none⟩) hbs).trans c0
      have d1 := (HW.out.hb.cell (p := ⟨b, o + j * 3 + 1, none⟩) hbs).trans c1
      have d2 := (HW.out.hb.cell (p := ⟨b, o + j * 3 + 2, none⟩) hbs).trans c2
      have hcan := Can_any a L _ _ wr (hTa.bel HW.out.hb) (HT.out.bel HW.out.hb) (HTab.out.bel HW.out.hb)
      rw [canS_known HML.out (List.mem_of_getElem? ha)] at hcan
      clear ha c0 c1 c2 hTa
      go_wp2_with (go_at_call 17; refine hcan.mono ?_; rintro e w1 ⟨rfl, hb⟩; have HW1 := Lib.hid (HW.out.bel hb); clear hb)
      go_roundw
      case rel => exact ⟨j + 1, by go_num, by omega, HW1⟩
      case measure => simp [intOf]; omega
    · obtain rfl : j = L.length := by omega
      go_wp2_with fail
      refine wp_region_post 4 (R := fun _ => Grew None_) (B := fun _ _ => True) (C := Grew (None_) wr)
        [fun v _ => v = .slice A L.length c,
          fun v w' => ∃ cs, w'.ownsRow wr.heap.size 25 3 v L.length cs ∧ CT w' (fun b => b < wr.heap.size) L cs,
          fun v _ => v = .agg #[.int .i64 m.k, .int .i64 m.n, .slice Am m.args.length cm],
          fun v w' => ∃ g', v = .slice (some ⟨g', 0, none⟩) 1 1 ∧ w'.heap[g']? = some (.cells #[.int .i64 m.k, .int .i64 m.n, .slice Am m.args.length cm] 25 (0, 0))]
        [[], [0], [], [2]] (by kernel_rfl) (by kernel_rfl) (by kernel_rfl) (fun _ _ _ _ h h' => h.trans h') ?_ (fun _ _ _ _ _ _ _ _ _ _ _ => trivial) (Grew.drew _ _) (fun _ _ => trivial) ?_ ?_
      · intro i j v w1 w2 _ _ _ hg
        refine lasts ?_ j v
        simp only [List.forall_mem_cons, List.not_mem_nil, false_implies, implies_true, and_true]
        refine ⟨fun _ h => h, fun _ ⟨cs, h1, h2⟩ => ⟨cs, own_grew h1 hg (fun _ _ h => h.elim), h2.bel hg.all⟩, fun _ h => h, fun _ ⟨g', h1, h2⟩ => ⟨g', h1, hg.heap h2 fun h => h.elim⟩⟩
      · intro vals
        simp only [List.take_succ_cons, List.take_zero, Steps_, List.headD_cons, List.tail_cons, List.forall_mem_cons, List.not_mem_nil, false_implies, implies_true, and_true, List.getD_cons_zero, List.getD_cons_succ, Act.put, List.setIfInBounds_toArray, List.set_cons_zero, List.set_cons_succ, Nat.zero_add, Nat.reduceAdd]
        refine ⟨?_, ?_, ?_, ?_⟩
        · rintro w1 hC _ _
          go_wp2_with fail
          exact ⟨_, rfl, Grew.refl _ _, rfl⟩
        · rintro w1 hC _ h0
          rw [h0]
          have HTW := Lib.hid ((HT.out.bel HW.out.hb).past.bel hC.all)
          have hcs := hC.size
          go_wp2_with (at_builtin; refine wpList_append_terms rfl _ _ rfl wr.heap.size (fun b => b < wr.heap.size) L rfl rfl HTW.out ?_ hcs ?_; rotate_right; intro v2 w2 cs h1 h2 h3; have H1 := Lib.hid h1; have H2 := Lib.hid h2; have H3 := Lib.hid h3; clear h1 h2 h3)
          · exact ⟨_, rfl, Grew.of_grownBy H3.out (fun k hk => by cases hk), cs, H1.out, H2.out⟩
          · have := HMU.out.1; omega
        · rintro w1 hC _ _
          have hh := (HW.out.bel hC.all).h5
          have q0 := (blk_cell hh 0).trans rfl
          have q1 := (blk_cell hh 1).trans rfl
          have q2 := (blk_cell hh 2).trans rfl
          clear hh
          go_wp2_with fail
          exact ⟨_, rfl, Grew.refl _ _, rfl⟩
        · rintro w1 hC _ h2
          rw [h2]
          go_wp2_with fail
          exact ⟨_, rfl, Grew.alloc _ _ _, w1.heap.size, rfl, heap_alloc_new _ _⟩
      · intro vals w1 hC hv
        have x0 : vals 0 = .slice A L.length c := hv 0 (by omega)
        generalize hgoal : wpList _ _ _ _ _ _ = G; obtain ⟨cs, hcs, hct⟩ : ∃ cs, w1.ownsRow wr.heap.size 25 3 (vals 1) L.length cs ∧ CT w1 (fun b => b < wr.heap.size) L cs := hv 1 (by omega); obtain ⟨A9, c9, x1, _, _⟩ := own_form hcs; rw [x1] at hcs; subst hgoal
        have x2 : vals 2 = .agg #[.int .i64 m.k, .int .i64 m.n, .slice Am m.args.length cm] := hv 2 (by omega)
        generalize hgoal : wpList _ _ _ _ _ _ = G; obtain ⟨g', x3, hgh⟩ : ∃ g', vals 3 = .slice (some ⟨g', 0, none⟩) 1 1 ∧ w1.heap[g']? = some (.cells #[.int .i64 m.k, .int .i64 m.n, .slice Am m.args.length cm] 25 (0, 0)) := hv 3 (by omega); subst hgoal
        simp only [List.take_succ_cons, List.take_zero, List.drop_succ_cons, List.drop_zero, List.drop_nil, lexA, Act.put, List.setIfInBounds_toArray, List.set_cons_zero, List.set_cons_succ, Nat.zero_add, Nat.reduceAdd, x0, x1, x2, x3]
        clear x0 x1 x2 x3 hv
        have HCS := Lib.hid hcs
        have HCT := Lib.hid hct
        have HGH := Lib.hid hgh
        have HBW1 := Lib.hid (HW.out.bel hC.all)
        have HS1 := Lib.hid hC.size
        have HM1 := Lib.hid ((HM.out.bel HW.out.hb).past.bel hC.all)
        clear hcs hct hgh
        obtain ⟨i0, hi, hz0, hz1, hz2⟩ := info_parts info25
        go_wp2_with (at_builtin; refine wpList_append_own_at _ rfl _ _ 22 rfl wr.heap.size 25 i0 _ 3 40 Tryd.underlying22 hi hz0 hz1 hz2 rfl (by decide) (.slice A9 L.length c9) _ cs rfl HCS.out ⟨g', 0, none⟩ 1 1 [.int .i64 m.k, .int .i64 m.n, .slice Am m.args.length cm] rfl rfl (news3 HGH.out) (ones3 _ _ _ _ _) ?_ ?_ ?_ ?_; rotate_right; intro v2 w2 hown2 hg2 _ hloc; have HG2 := Lib.hid hg2; have HOW2 := Lib.hid hown2; clear hg2 hown2 hloc)
        · obtain ⟨A8, c8, rfl, _, _⟩ := own_form HOW2.out
          have HOB : Hid (∀ k, (Value.slice A9 L.length c9).ownBlock = some k → wr.heap.size ≤ k) := own_base HCS.out
          have HB2 : Hid (Below w.heap.size w w2) := Below.grown HBW1.out.hb HG2.out HBW1.out.hb.size fun k hk => Nat.le_trans HW.out.hb.size (HOB.out k hk)
          have hlt5 := (Array.getElem?_eq_some_iff.1 HW.out.h5).1
          have HGR : Hid (Grew (fun k => wr.heap.size ≤ k) w1 w2) := Grew.of_grownBy HG2.out HOB.out
          have HW := Lib.hid (show MW w #[.int .i64 g.k, .int .i64 g.n, .slice Ag g.args.length cg] #[.int .i64 m.k, .int .i64 m.n, .slice Am m.args.length cm] w2 from ⟨HB2.out, HGR.out.heap HBW1.out.h4 (by omega), HGR.out.heap HBW1.out.h5 (by omega)⟩)
          have HTB : Hid (TS w2 Any (L ++ [m]) (.slice A8 (L.length + 1) c8)) := by
            refine CT.ts (base := wr.heap.size) (D := fun b => b < wr.heap.size) (cs := cs ++ [.int .i64 m.k, .int .i64 m.n, .slice Am m.args.length cm]) (by simpa using HOW2.out) ?_
            exact (HCT.out.grew HGR.out fun k h1 h2 => by omega).snoc HCS.out.1 (HM1.out.grew HGR.out fun k h1 h2 => by omega)
          have hlm : mayL (L ++ [m]) = true := mayL_iff.2 ⟨by have := HMU.out.1; simp; omega, fun t ht => by
            rcases List.mem_append.1 ht with h | h
            · exact (mayL_iff.1 HML.out).2 t h
            · rw [List.mem_singleton] at h; subst h; exact h6⟩
          have hmono := canS_mono (L := L) (m := m) (g := g) hlm
          have hcut := canS_cut (L := L) (m := m) (g := g) hlm
          have hord := canS_ord L g
          have hx1 : ∀ x : Later w2.heap.size w2, Calls Tryd.prog 17 #[.agg #[.int .i64 g.k, .int .i64 g.n, .slice Ag g.args.length cg], .slice A L.length c] x.w fun e w' => e = .returned (.bool (canS L g)) ∧ Below x.w.heap.size x.w w' := fun x => Can_any g L _ _ x.w ((HG.out.bel HB2.out).bel x.2) ((HT.out.bel HB2.out).bel x.2) ((HTab.out.bel HB2.out).bel x.2)
          have hx2 : ∀ x : Later w2.heap.size w2, Calls Tryd.prog 17 #[.agg #[.int .i64 g.k, .int .i64 g.n, .slice Ag g.args.length cg], .slice A8 (L.length + 1) c8] x.w fun e w' => e = .returned (.bool (canS (L ++ [m]) g)) ∧ Below x.w.heap.size x.w w' := fun x => Can_any g (L ++ [m]) _ _ x.w ((HG.out.bel HB2.out).bel x.2) (HTB.out.bel x.2) ((HTab.out.bel HB2.out).bel x.2)
          have CM : Hid (∀ w1, Below w.heap.size w w1 → Calls Tryd.prog 17 #[.agg #[.int .i64 m.k, .int .i64 m.n, .slice Am m.args.length cm], .slice A L.length c] w1 fun e w' => e = .returned (.bool (canS L m)) ∧ Below w1.heap.size w1 w') := fun w1 hb => Can_any m L _ _ w1 (HM.out.bel hb) (HT.out.bel hb) (HTab.out.bel hb)
          have CO : Hid (∀ w1, Below w.heap.size w w1 → ∀ v', TR w1 Any (ord g) v' → Calls Tryd.prog 17 #[v', .slice A L.length c] w1 fun e w' => e = .returned (.bool (canS L (ord g))) ∧ Below w1.heap.size w1 w') := fun w1 hb v' h => Can_any (ord g) L _ _ w1 h (HT.out.bel hb) (HTab.out.bel hb)
          have C18 : Hid (∀ w1, Below w.heap.size w w1 → Calls Tryd.prog 18 #[.agg #[.int .i64 g.k, .int .i64 g.n, .slice Ag g.args.length cg]] w1 fun e w' => ∃ v', e = .returned v' ∧ TR w' (fun b => w1.heap.size ≤ b) (ord g) v' ∧ Below w1.heap.size w1 w') := fun w1 hb => rOrder_any _ g _ w1 (Nat.le_refl _) ((may_iff g).1 h5).1 ((may_iff g).1 h5).2 (HG.out.bel hb) (HTab.out.bel hb)
          rw [hord] at CO
          clear hord
          obtain ⟨r, hr⟩ : ∃ r, r = canS L m := ⟨_, rfl⟩
          rw [← hr] at CM hcut
          obtain ⟨q, hq⟩ : ∃ q, q = canS (L ++ [m]) g := ⟨_, rfl⟩
          rw [← hq] at hx2 hmono hcut
          obtain ⟨p, hp⟩ : ∃ p, p = canS L g := ⟨_, rfl⟩
          rw [← hp] at hx1 hmono hcut CO
          clear hr hq hp h5 h6 hlm
          have HX1 := Lib.hid hx1
          have HX2 := Lib.hid hx2
          have l0 : ∀ x : Later w2.heap.size w2, x.w.cell? ⟨w.heap.size, 0, none⟩ = some (.int .i64 g.k) := fun x => x.cell ((blk_cell HW.out.h4 0).trans rfl) (Array.getElem?_eq_some_iff.1 HW.out.h4).1
          have l1 : ∀ x : Later w2.heap.size w2, x.w.cell? ⟨w.heap.size, 1, none⟩ = some (.int .i64 g.n) := fun x => x.cell ((blk_cell HW.out.h4 1).trans rfl) (Array.getElem?_eq_some_iff.1 HW.out.h4).1
          have l2 : ∀ x : Later w2.heap.size w2, x.w.cell? ⟨w.heap.size, 2, none⟩ = some (.slice Ag g.args.length cg) := fun x => x.cell ((blk_cell HW.out.h4 2).trans rfl) (Array.getElem?_eq_some_iff.1 HW.out.h4).1
          clear hx1 hx2
          refine wp_region_later w2.heap.size (by kernel_rfl) ?_
          repeat (first | go_big_quiet_step ((go_at_call 17; first | (with_reducible exact later_call (HX1.out _) (Nat.le_refl _)) | (with_reducible exact later_call (HX2.out _) (Nat.le_refl _)))) | quiet_step ((go_at_call 17; first | (with_reducible exact later_call (HX1.out _) (Nat.le_refl _)) | (with_reducible exact later_call (HX2.out _) (Nat.le_refl _)))))
          refine wpQuiet_nil (later_all ?_)
          intro wx hx
          have HW := Lib.hid (HW.out.bel hx)
          clear hx l0 l1 l2
          have r0 := (blk_cell HW.out.h4 0).trans rfl; have r1 := (blk_cell HW.out.h4 1).trans rfl; have r2 := (blk_cell HW.out.h4 2).trans rfl; have t0 := (blk_cell HW.out.h5 0).trans rfl; have t1 := (blk_cell HW.out.h5 1).trans rfl; have t2 := (blk_cell HW.out.h5 2).trans rfl
          have hpqr : (p = false ∧ q = false) ∨ (p = true ∧ q = true) ∨ (p = false ∧ q = true ∧ r = false) := by
            revert hmono hcut
            cases p <;> cases q <;> cases r <;> simp
          clear hmono hcut
          rcases hpqr with ⟨rfl, rfl⟩ | ⟨rfl, rfl⟩ | ⟨rfl, rfl, rfl⟩
          · cases r
            all_goals go_wp2_with (first
              | (go_at_call 17; with_reducible refine (CM.out _ HW.out.hb).mono ?_; rintro e w1 ⟨rfl, hb⟩; have HW := Lib.hid (HW.out.bel hb); clear hb r0 r1 r2 t0 t1 t2; have r0 := (blk_cell HW.out.h4 0).trans rfl; have r1 := (blk_cell HW.out.h4 1).trans rfl; have r2 := (blk_cell HW.out.h4 2).trans rfl; have t0 := (blk_cell HW.out.h5 0).trans rfl; have t1 := (blk_cell HW.out.h5 1).trans rfl; have t2 := (blk_cell HW.out.h5 2).trans rfl)
              | (go_at_call 18; refine (C18.out _ HW.out.hb).mono ?_; rintro e w1 ⟨v', rfl, hTo, hb⟩; obtain ⟨Ao, co, rfl⟩ := hTo.form3; have HTO := Lib.hid hTo.any; have HW := Lib.hid (HW.out.bel hb); clear hb hTo r0 r1 r2 t0 t1 t2; have r0 := (blk_cell HW.out.h4 0).trans rfl; have r1 := (blk_cell HW.out.h4 1).trans rfl; have r2 := (blk_cell HW.out.h4 2).trans rfl; have t0 := (blk_cell HW.out.h5 0).trans rfl; have t1 := (blk_cell HW.out.h5 1).trans rfl; have t2 := (blk_cell HW.out.h5 2).trans rfl)
              | (go_at_call 17; refine (CO.out _ HW.out.hb _ HTO.out).mono ?_; rintro e w1 ⟨rfl, hb⟩; have HW := Lib.hid (HW.out.bel hb); clear hb r0 r1 r2 t0 t1 t2; have r0 := (blk_cell HW.out.h4 0).trans rfl; have r1 := (blk_cell HW.out.h4 1).trans rfl; have r2 := (blk_cell HW.out.h4 2).trans rfl; have t0 := (blk_cell HW.out.h5 0).trans rfl; have t1 := (blk_cell HW.out.h5 1).trans rfl; have t2 := (blk_cell HW.out.h5 2).trans rfl))
            all_goals go_ret
            all_goals exact ⟨rfl, HW.out.hb⟩
          · cases r
            all_goals go_wp2_with (first
              | (go_at_call 17; with_reducible refine (CM.out _ HW.out.hb).mono ?_; rintro e w1 ⟨rfl, hb⟩; have HW := Lib.hid (HW.out.bel hb); clear hb r0 r1 r2 t0 t1 t2; have r0 := (blk_cell HW.out.h4 0).trans rfl; have r1 := (blk_cell HW.out.h4 1).trans rfl; have r2 := (blk_cell HW.out.h4 2).trans rfl; have t0 := (blk_cell HW.out.h5 0).trans rfl; have t1 := (blk_cell HW.out.h5 1).trans rfl; have t2 := (blk_cell HW.out.h5 2).trans rfl)
              | (go_at_call 18; refine (C18.out _ HW.out.hb).mono ?_; rintro e w1 ⟨v', rfl, hTo, hb⟩; obtain ⟨Ao, co, rfl⟩ := hTo.form3; have HTO := Lib.hid hTo.any; have HW := Lib.hid (HW.out.bel hb); clear hb hTo r0 r1 r2 t0 t1 t2; have r0 := (blk_cell HW.out.h4 0).trans rfl; have r1 := (blk_cell HW.out.h4 1).trans rfl; have r2 := (blk_cell HW.out.h4 2).trans rfl; have t0 := (blk_cell HW.out.h5 0).trans rfl; have t1 := (blk_cell HW.out.h5 1).trans rfl; have t2 := (blk_cell HW.out.h5 2).trans rfl)
              | (go_at_call 17; refine (CO.out _ HW.out.hb _ HTO.out).mono ?_; rintro e w1 ⟨rfl, hb⟩; have HW := Lib.hid (HW.out.bel hb); clear hb r0 r1 r2 t0 t1 t2; have r0 := (blk_cell HW.out.h4 0).trans rfl; have r1 := (blk_cell HW.out.h4 1).trans rfl; have r2 := (blk_cell HW.out.h4 2).trans rfl; have t0 := (blk_cell HW.out.h5 0).trans rfl; have t1 := (blk_cell HW.out.h5 1).trans rfl; have t2 := (blk_cell HW.out.h5 2).trans rfl))
            all_goals go_ret
            all_goals exact ⟨rfl, HW.out.hb⟩
          · skip
            all_goals go_wp2_with (first
              | (go_at_call 17; with_reducible refine (CM.out _ HW.out.hb).mono ?_; rintro e w1 ⟨rfl, hb⟩; have HW := Lib.hid (HW.out.bel hb); clear hb r0 r1 r2 t0 t1 t2; have r0 := (blk_cell HW.out.h4 0).trans rfl; have r1 := (blk_cell HW.out.h4 1).trans rfl; have r2 := (blk_cell HW.out.h4 2).trans rfl; have t0 := (blk_cell HW.out.h5 0).trans rfl; have t1 := (blk_cell HW.out.h5 1).trans rfl; have t2 := (blk_cell HW.out.h5 2).trans rfl)
              | (go_at_call 18; refine (C18.out _ HW.out.hb).mono ?_; rintro e w1 ⟨v', rfl, hTo, hb⟩; obtain ⟨Ao, co, rfl⟩ := hTo.form3; have HTO := Lib.hid hTo.any; have HW := Lib.hid (HW.out.bel hb); clear hb hTo r0 r1 r2 t0 t1 t2; have r0 := (blk_cell HW.out.h4 0).trans rfl; have r1 := (blk_cell HW.out.h4 1).trans rfl; have r2 := (blk_cell HW.out.h4 2).trans rfl; have t0 := (blk_cell HW.out.h5 0).trans rfl; have t1 := (blk_cell HW.out.h5 1).trans rfl; have t2 := (blk_cell HW.out.h5 2).trans rfl)
              | (go_at_call 17; refine (CO.out _ HW.out.hb _ HTO.out).mono ?_; rintro e w1 ⟨rfl, hb⟩; have HW := Lib.hid (HW.out.bel hb); clear hb r0 r1 r2 t0 t1 t2; have r0 := (blk_cell HW.out.h4 0).trans rfl; have r1 := (blk_cell HW.out.h4 1).trans rfl; have r2 := (blk_cell HW.out.h4 2).trans rfl; have t0 := (blk_cell HW.out.h5 0).trans rfl; have t1 := (blk_cell HW.out.h5 1).trans rfl; have t2 := (blk_cell HW.out.h5 2).trans rfl))
            all_goals go_ret
            all_goals exact ⟨rfl, HW.out.hb⟩
        · unfold maxLen; have := HMU.out.1; omega
        · have := HMU.out.1; omega
        · exact HS1.out
end Go.Proofs.YtfhpnkmhppfeiaaDoor
