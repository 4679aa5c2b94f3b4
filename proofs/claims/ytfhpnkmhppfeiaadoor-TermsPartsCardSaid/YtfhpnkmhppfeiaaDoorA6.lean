/- terms.Order, name, Same. -/
import Derived.Test.YtfhpnkmhppfeiaaDoorA5
set_option linter.unusedVariables false
set_option linter.unusedSimpArgs false
namespace Go.Proofs.YtfhpnkmhppfeiaaDoor
open Go.RowKit Go.Proofs
theorem cell3_load {w : World} {g : Nat} {c0 c1 c2 : Value} (h : w.heap[g]? = some (.cells #[c0, c1, c2] 25 (0, 0))) : w.cell? ⟨g, 0, none⟩ = some c0 ∧ w.cell? ⟨g, 1, none⟩ = some c1 ∧ w.cell? ⟨g, 2, none⟩ = some c2 ∧
    w.frozen? ⟨g, 0, none⟩ = false ∧ w.frozen? ⟨g, 1, none⟩ = false ∧ w.frozen? ⟨g, 2, none⟩ = false :=
  ⟨(blk_cell h 0).trans rfl, (blk_cell h 1).trans rfl, (blk_cell h 2).trans rfl, blk_free h 0, blk_free h 1, blk_free h 2⟩
theorem heap2 (w : World) (o1 o2 : Obj) : ((w.alloc o1).alloc o2).heap[w.heap.size]? = some o1 ∧ ((w.alloc o1).alloc o2).heap[w.heap.size + 1]? = some o2 := by
  refine ⟨(Below.heap_alloc _ _ _ (by simp)).trans (heap_alloc_new w _), ?_⟩
  have := heap_alloc_new (w.alloc o1) o2
  rw [World.size_alloc] at this
  exact this
/-- A struct that is stored into a variable of three cells. -/
theorem grew3 (w : World) (g : Nat) (c0 c1 c2 : Value) : Grew (fun b => b = g) w (((w.setCell ⟨g, 0, none⟩ c0).setCell ⟨g, 1, none⟩ c1).setCell ⟨g, 2, none⟩ c2) :=
  (((Grew.refl (fun b => b = g) w).setCell (j := 0) rfl c0).setCell (j := 1) rfl c1).setCell (j := 2) rfl c2
theorem TR.old {w W : World} {t : Tm} {v : Value} (h : TR w Any t v) (hb : Below w.heap.size w W) : TR W (fun b => b < w.heap.size) t v := (h.mono (D' := fun b => b < w.heap.size) fun _ _ hlt => hlt).bel hb
theorem TS.old {w W : World} {t : List Tm} {v : Value} (h : TS w Any t v) (hb : Below w.heap.size w W) : TS W (fun b => b < w.heap.size) t v := (h.mono (D' := fun b => b < w.heap.size) fun _ _ hlt => hlt).bel hb

set_option maxRecDepth 100000 in
set_option maxHeartbeats 1000000 in
theorem Order_any (t : Tm) (v : Value) (w : World) (hT : TR w Any t v) (hTab : Tab w) :
    Calls Tryd.prog 35 #[v] w fun e w' => ∃ v', e = .returned v' ∧ TR w' Any (if may t = true then ord t else t) v' ∧ Below w.heap.size w w' := by
    obtain ⟨A, c, rfl⟩ := hT.form3
    have HT := Lib.hid hT
    have HTab := Lib.hid hTab
    have hmay := may_any t _ ((w.alloc (.cells #[.int .i64 t.k, .int .i64 t.n, .slice A t.args.length c] 25)).alloc (.cells #[.int .i64 0, .int .i64 0, .slice none 0 0] 25)) (hT.bel (balloc (bself w _) _))
    clear hT hTab
    cases hm : may t with
    | false =>
      have HM := Lib.hid hm
      rw [hm] at hmay
      clear hm
      go_enter Tryd.func35, Tryd.ntmps35
      go_wp2_with (go_at_call 30; refine hmay.mono ?_; rintro e W1 ⟨rfl, hb⟩; have HB1 := Lib.hid (bthen (balloc (bself w _) _) hb); have HH := heap2 w (.cells #[.int .i64 t.k, .int .i64 t.n, .slice A t.args.length c] 25) (.cells #[.int .i64 0, .int .i64 0, .slice none 0 0] 25); have hA := (hb.block w.heap.size (by simp; omega)).trans HH.1; have hC := (hb.block (w.heap.size + 1) (by simp)).trans HH.2; obtain ⟨q0, q1, q2, _, _, _⟩ := cell3_load hA; obtain ⟨r0, r1, r2, r3, r4, r5⟩ := cell3_load hC; have HC := Lib.hid hC; have HA1 := Lib.hid hA; clear hb hA hC HH)
      refine bodyPost_ret (v := .agg #[.int .i64 t.k, .int .i64 t.n, .slice A t.args.length c]) (by simp [results, Tryd.results35, go_sem, r0, r1, r2]) rfl ⟨_, rfl, ?_, ?_⟩
      · exact ((HT.out.old HB1.out).grew (grew3 _ _ _ _ _) fun k hk e => by omega).any
      · exact HB1.out.trans ((grew3 _ _ _ _ _).below HB1.out.size fun k e => by omega)
    | true =>
      have HM := Lib.hid hm
      rw [hm] at hmay
      clear hm
      go_enter Tryd.func35, Tryd.ntmps35
      go_wp2_with (go_at_call 30; refine hmay.mono ?_; rintro e W1 ⟨rfl, hb⟩; have HB1 := Lib.hid (bthen (balloc (bself w _) _) hb); have HH := heap2 w (.cells #[.int .i64 t.k, .int .i64 t.n, .slice A t.args.length c] 25) (.cells #[.int .i64 0, .int .i64 0, .slice none 0 0] 25); have hA := (hb.block w.heap.size (by simp; omega)).trans HH.1; have hC := (hb.block (w.heap.size + 1) (by simp)).trans HH.2; obtain ⟨q0, q1, q2, _, _, _⟩ := cell3_load hA; obtain ⟨r0, r1, r2, r3, r4, r5⟩ := cell3_load hC; have HC := Lib.hid hC; have HA1 := Lib.hid hA; clear hb hA hC HH)
      refine wp_region_post 2 (R := fun _ => Grew None_) (B := fun _ _ => True) (C := Grew (None_) W1)
        [fun v _ => v = .agg #[.int .i64 t.k, .int .i64 t.n, .slice A t.args.length c],
          fun v w' => ∃ m, v = .map (some m) ∧ FormsAt w' m]
        [[], []] (by kernel_rfl) (by kernel_rfl) (by kernel_rfl) (fun _ _ _ _ h h' => h.trans h') ?_ (fun _ _ _ _ _ _ _ _ _ _ _ => trivial) (Grew.drew _ _) (fun _ _ => trivial) ?_ ?_
      · intro i j v w1 w2 _ _ _ hg
        refine lasts ?_ j v
        simp only [List.forall_mem_cons, List.not_mem_nil, false_implies, implies_true, and_true]
        refine ⟨fun _ h => h, fun _ ⟨m, e, h⟩ => ⟨m, e, h.bel hg.all⟩⟩
      · intro vals
        simp only [List.take_succ_cons, List.take_zero, Steps_, List.headD_cons, List.tail_cons, List.forall_mem_cons, List.not_mem_nil, false_implies, implies_true, and_true, List.getD_cons_zero, List.getD_cons_succ, Act.put, List.setIfInBounds_toArray, List.set_cons_zero, List.set_cons_succ, Nat.zero_add, Nat.reduceAdd]
        refine ⟨?_, ?_⟩
        · rintro w1 hC _ _
          have q0 := (blk_cell (hC.heap HA1.out fun h => h.elim) 0).trans rfl
          have q1 := (blk_cell (hC.heap HA1.out fun h => h.elim) 1).trans rfl
          have q2 := (blk_cell (hC.heap HA1.out fun h => h.elim) 2).trans rfl
          go_wp2_with fail
          exact ⟨_, rfl, Grew.refl _ _, rfl⟩
        · rintro w1 hC _ _
          go_wp2_with (go_at_call 41; refine (forms_any _).mono ?_; rintro e w2 ⟨rfl, hF, hb⟩)
          exact ⟨_, rfl, Grew.of_below hb, _, rfl, hF⟩
      · intro vals w1 hC hv
        have x0 : vals 0 = .agg #[.int .i64 t.k, .int .i64 t.n, .slice A t.args.length c] := hv 0 (by omega)
        obtain ⟨m, xm, hF⟩ := hv 1 (by omega)
        simp only [List.take_succ_cons, List.take_zero, List.drop_succ_cons, List.drop_zero, List.drop_nil, lexA, Act.put, List.setIfInBounds_toArray, List.set_cons_zero, List.set_cons_succ, Nat.zero_add, Nat.reduceAdd, x0, xm]
        clear x0 xm hv
        have hbb := HB1.out.trans (hC.all.mono HB1.out.size)
        have hm := (may_iff t).1 HM.out
        have hic := order_any _ t _ m w1 (Nat.le_refl _) hm.1 hm.2 (HT.out.bel hbb) hF (HTab.out.bel hbb)
        have HBB := Lib.hid hbb
        have HC1 := Lib.hid (hC.heap HC.out fun h => h.elim)
        clear hbb hm r0 r1 r2 r3 r4 r5 q0 q1 q2
        go_wp2_with (go_at_call 40; refine hic.mono ?_; rintro e w2 ⟨v2, rfl, hT2, hb⟩; obtain ⟨A2, c2, rfl⟩ := hT2.form3; have HT2 := Lib.hid hT2; have HB2 := Lib.hid hb; have hC2 := (hb.block (w.heap.size + 1) (Array.getElem?_eq_some_iff.1 HC1.out).1).trans HC1.out; obtain ⟨r0, r1, r2, r3, r4, r5⟩ := cell3_load hC2; have HC2 := Lib.hid hC2; clear hT2 hb hC2)
        refine bodyPost_ret (v := .agg #[.int .i64 (ord t).k, .int .i64 (ord t).n, .slice A2 (ord t).args.length c2]) (by simp [results, Tryd.results35, go_sem, r0, r1, r2]) rfl ⟨_, rfl, ?_, ?_⟩
        · exact (HT2.out.grew (grew3 _ _ _ _ _) fun k hk e => by have := (Array.getElem?_eq_some_iff.1 HC1.out).1; omega).any
        · exact (bthen HBB.out HB2.out).trans ((grew3 _ _ _ _ _).below (bthen HBB.out HB2.out).size fun k e => by omega)
end Go.Proofs.YtfhpnkmhppfeiaaDoor
