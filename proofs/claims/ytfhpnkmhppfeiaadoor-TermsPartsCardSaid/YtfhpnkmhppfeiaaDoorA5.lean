/- terms.May, Text, Order, name, Same. -/
import Derived.Test.YtfhpnkmhppfeiaaDoorA4
set_option linter.unusedVariables false
set_option linter.unusedSimpArgs false
namespace Go.Proofs.YtfhpnkmhppfeiaaDoor
open Go.RowKit Go.Proofs
/-- A term's value is written out. -/
theorem TR.form3 {w : World} {D : Nat → Prop} {t : Tm} {v : Value} (h : TR w D t v) : ∃ A c, v = .agg #[.int .i64 t.k, .int .i64 t.n, .slice A t.args.length c] := by
  obtain ⟨k, n, args⟩ := t
  obtain ⟨s, rfl, _, _, hs⟩ := h.inv
  obtain ⟨A, c, rfl, _⟩ := hs.form
  exact ⟨A, c, rfl⟩

set_option maxRecDepth 100000 in
set_option maxHeartbeats 1000000 in
theorem may_any (t : Tm) (v : Value) (w : World) (hT : TR w Any t v) : Calls Tryd.prog 30 #[v] w fun e w' => e = .returned (.bool (may t)) ∧ Below w.heap.size w w' := by
    obtain ⟨A, c, rfl⟩ := hT.form3
    have HT := Lib.hid hT
    clear hT
    have hmay := may_fits t
    have HM := Lib.hid hmay
    clear hmay
    go_enter Tryd.func30, Tryd.ntmps30
    go_wp2_with fail
    obtain ⟨W1, hW1⟩ : ∃ W1 : World, W1 = w.alloc (.cells #[.int .i64 t.k, .int .i64 t.n, .slice A t.args.length c] 25) := ⟨_, rfl⟩
    rw [← hW1]
    have HB1 := Lib.hid (show Below w.heap.size w W1 by rw [hW1]; exact bself w _)
    have HA1 := Lib.hid (show W1.heap[w.heap.size]? = some (.cells #[.int .i64 t.k, .int .i64 t.n, .slice A t.args.length c] 25 (0, 0)) by rw [hW1]; exact heap_alloc_new w _)
    clear hW1
    refine wp_region_post 8 (R := fun _ => Grew None_) (B := fun _ _ => True) (C := Grew (None_) W1)
      [fun v _ => v = .agg #[.int .i64 t.k, .int .i64 t.n, .slice A t.args.length c],
        fun v w' => ∃ m, v = .map (some m) ∧ FormsAt w' m,
        fun v _ => v = .tuple #[.bool (fits t 2000).1, .int .i64 (fits t 2000).2],
        fun v _ => v = .tuple #[.bool (fits t 2000).1, .int .i64 (fits t 2000).2],
        fun v _ => v = .bool (fits t 2000).1,
        fun v _ => v = .int .i64 (fits t 2000).2,
        fun v _ => v = .bool (fits t 2000).1,
        fun v _ => v = .int .i64 (fits t 2000).2]
      [[], [], [0, 1], [2], [3], [3], [4], [5]] (by kernel_rfl) (by kernel_rfl) (by kernel_rfl) (fun _ _ _ _ h h' => h.trans h') ?_ (fun _ _ _ _ _ _ _ _ _ _ _ => trivial) (Grew.drew _ _) (fun _ _ => trivial) ?_ ?_
    · intro i j v w1 w2 _ _ _ hg
      refine lasts ?_ j v
      simp only [List.forall_mem_cons, List.not_mem_nil, false_implies, implies_true, and_true]
      refine ⟨fun _ h => h, fun _ ⟨m, e, h⟩ => ⟨m, e, h.bel hg.all⟩, fun _ h => h, fun _ h => h, fun _ h => h, fun _ h => h, fun _ h => h, fun _ h => h⟩
    · intro vals
      simp only [List.take_succ_cons, List.take_zero, Steps_, List.headD_cons, List.tail_cons, List.forall_mem_cons, List.not_mem_nil, false_implies, implies_true, and_true, List.getD_cons_zero, List.getD_cons_succ, Act.put, List.setIfInBounds_toArray, List.set_cons_zero, List.set_cons_succ, Nat.zero_add, Nat.reduceAdd]
      refine ⟨?_, ?_, ?_, ?_, ?_, ?_, ?_, ?_⟩
      · rintro w1 hC _ _
        have q0 := (blk_cell (hC.heap HA1.out fun h => h.elim) 0).trans rfl
        have q1 := (blk_cell (hC.heap HA1.out fun h => h.elim) 1).trans rfl
        have q2 := (blk_cell (hC.heap HA1.out fun h => h.elim) 2).trans rfl
        go_wp2_with fail
        exact ⟨_, rfl, Grew.refl _ _, rfl⟩
      · rintro w1 hC _ _
        go_wp2_with (go_at_call 41; refine (forms_any _).mono ?_; rintro e w2 ⟨rfl, hF, hb⟩)
        exact ⟨_, rfl, Grew.of_below hb, _, rfl, hF⟩
      · rintro w1 hC _ ⟨h0, h1⟩
        rw [h0]
        obtain ⟨m, e1, hF⟩ := h1
        rw [e1]
        have hbb := HB1.out.trans (hC.all.mono HB1.out.size)
        have hic := fits_any _ t _ m 2000 w1 (Nat.le_refl _) (HT.out.bel hbb) hF (by omega) (by omega)
        clear hbb e1
        go_wp2_with (go_at_call 49; refine hic.mono ?_; rintro e w2 ⟨rfl, hb⟩)
        exact ⟨_, rfl, Grew.of_below hb, rfl⟩
      · rintro w1 hC _ h2
        rw [h2]
        go_wp2_with fail
        exact ⟨_, rfl, Grew.refl _ _, rfl⟩
      · rintro w1 hC _ h3
        rw [h3]
        go_wp2_with fail
        exact ⟨_, rfl, Grew.refl _ _, rfl⟩
      · rintro w1 hC _ h3
        rw [h3]
        go_wp2_with fail
        exact ⟨_, rfl, Grew.refl _ _, rfl⟩
      · rintro w1 hC _ h4
        rw [h4]
        go_wp2_with fail
        exact ⟨_, rfl, Grew.refl _ _, rfl⟩
      · rintro w1 hC _ h5
        rw [h5]
        go_wp2_with fail
        exact ⟨_, rfl, Grew.refl _ _, rfl⟩
    · intro vals w1 hC hv
      have x0 : vals 0 = .agg #[.int .i64 t.k, .int .i64 t.n, .slice A t.args.length c] := hv 0 (by omega)
      obtain ⟨m, xm, hF⟩ := hv 1 (by omega)
      have x2 : vals 2 = .tuple #[.bool (fits t 2000).1, .int .i64 (fits t 2000).2] := hv 2 (by omega)
      have x3 : vals 3 = .tuple #[.bool (fits t 2000).1, .int .i64 (fits t 2000).2] := hv 3 (by omega)
      have x4 : vals 4 = .bool (fits t 2000).1 := hv 4 (by omega)
      have x5 : vals 5 = .int .i64 (fits t 2000).2 := hv 5 (by omega)
      have x6 : vals 6 = .bool (fits t 2000).1 := hv 6 (by omega)
      have x7 : vals 7 = .int .i64 (fits t 2000).2 := hv 7 (by omega)
      simp only [List.take_succ_cons, List.take_zero, List.drop_succ_cons, List.drop_zero, List.drop_nil, lexA, Act.put, List.setIfInBounds_toArray, List.set_cons_zero, List.set_cons_succ, Nat.zero_add, Nat.reduceAdd, x0, xm, x2, x3, x4, x5, x6, x7]
      clear x0 xm x2 x3 x4 x5 x6 x7 hv
      have hbb := HB1.out.trans (hC.all.mono HB1.out.size)
      go_wp2_with fail
      go_ret
      exact ⟨ret_b HM.out, hbb⟩

set_option maxRecDepth 100000 in
set_option maxHeartbeats 1000000 in
theorem Text_any (t : Tm) (v : Value) (w : World) (hT : TR w Any t v) (hTab : Tab w) :
    Calls Tryd.prog 31 #[v] w fun e w' => e = .returned (.tuple #[.string ⟨(if may t = true then txt t else []).toArray⟩, .int .i64 (if may t = true then 0 else 2)]) ∧ Below w.heap.size w w' := by
    obtain ⟨A, c, rfl⟩ := hT.form3
    have HT := Lib.hid hT
    have HTab := Lib.hid hTab
    have hmay := may_any t _ (w.alloc (.cells #[.int .i64 t.k, .int .i64 t.n, .slice A t.args.length c] 25)) (hT.bel (bself w _))
    clear hT hTab
    cases hm : may t with
    | false =>
      have HM := Lib.hid hm
      rw [hm] at hmay
      clear hm
      go_enter Tryd.func31, Tryd.ntmps31
      go_wp2_with (go_at_call 30; refine hmay.mono ?_; rintro e w2 ⟨rfl, hb⟩)
      go_ret2
      exact ⟨rfl, bthen (bself w _) hb⟩
    | true =>
      have HM := Lib.hid hm
      rw [hm] at hmay
      clear hm
      go_enter Tryd.func31, Tryd.ntmps31
      go_wp2_with (go_at_call 30; refine hmay.mono ?_; rintro e W1 ⟨rfl, hb⟩; have HB1 := Lib.hid (bthen (bself w _) hb); have HA1 := Lib.hid ((hb.block w.heap.size (by simp)).trans (heap_alloc_new w _)); clear hb)
      refine wp_region_post 2 (R := fun _ => Grew None_) (B := fun _ _ => True) (C := Grew (None_) W1)
        [fun v _ => v = .agg #[.int .i64 t.k, .int .i64 t.n, .slice A t.args.length c],
          fun v w' => ∃ m, v = .map (some m) ∧ FormsAt w' m]
        [[], []] (by kernel_rfl) (by kernel_rfl) (by kernel_rfl) (fun _ _ _ _ h h' => h.trans h') ?_ (fun _ _ _ _ _ _ _ _ _ _ _ => trivial) (Grew.drew _ _) (fun _ _ => trivial) ?_ ?_
      · intro i j v w1 w2 _ _ _ hg
        refine lasts ?_ j v
        simp only [List.forall_mem_cons, List.not_mem_nil, false_implies, implies_true, and_true]
        refine ⟨fun _ h => h, fun _ ⟨m, e, h⟩ => ⟨m, e, h.bel hg.all⟩⟩
      · intro vals
        simp only [List.take_succ_cons, List.take_zero, Steps_, List.headD_cons, List.tail_cons, List.forall_mem_cons, List.not_mem_nil, false_implies, implies_true, and_true, List.getD_cons_zero, List.getD_cons_succ, Act.put, List.setIfInBounds_toArray, List.set_cons_zero, List.set_cons_succ, Nat.zero_add, Nat.reduceAdd]
        refine ⟨?_, ?_⟩
        · rintro w1 hC _ _
          have q0 := (blk_cell (hC.heap HA1.out fun h => h.elim) 0).trans rfl
          have q1 := (blk_cell (hC.heap HA1.out fun h => h.elim) 1).trans rfl
          have q2 := (blk_cell (hC.heap HA1.out fun h => h.elim) 2).trans rfl
          go_wp2_with fail
          exact ⟨_, rfl, Grew.refl _ _, rfl⟩
        · rintro w1 hC _ _
          go_wp2_with (go_at_call 41; refine (forms_any _).mono ?_; rintro e w2 ⟨rfl, hF, hb⟩)
          exact ⟨_, rfl, Grew.of_below hb, _, rfl, hF⟩
      · intro vals w1 hC hv
        have x0 : vals 0 = .agg #[.int .i64 t.k, .int .i64 t.n, .slice A t.args.length c] := hv 0 (by omega)
        obtain ⟨m, xm, hF⟩ := hv 1 (by omega)
        simp only [List.take_succ_cons, List.take_zero, List.drop_succ_cons, List.drop_zero, List.drop_nil, lexA, Act.put, List.setIfInBounds_toArray, List.set_cons_zero, List.set_cons_succ, Nat.zero_add, Nat.reduceAdd, x0, xm]
        clear x0 xm hv
        have hbb := HB1.out.trans (hC.all.mono HB1.out.size)
        have hm := (may_iff t).1 HM.out
        have hic := text_any _ t _ m w1 (Nat.le_refl _) hm.1 hm.2 (HT.out.bel hbb) hF (HTab.out.bel hbb)
        have HBB := Lib.hid hbb
        clear hbb hm
        go_wp2_with (go_at_call 50; refine hic.mono ?_; rintro e w2 ⟨rfl, hb⟩)
        go_ret2
        exact ⟨rfl, bthen HBB.out hb⟩
end Go.Proofs.YtfhpnkmhppfeiaaDoor
