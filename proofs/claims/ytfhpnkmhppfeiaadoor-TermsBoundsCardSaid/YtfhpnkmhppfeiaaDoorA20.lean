/- terms.Can. -/
import Derived.Test.YtfhpnkmhppfeiaaDoorA19
set_option linter.unusedVariables false
set_option linter.unusedSimpArgs false
namespace Go.Proofs.YtfhpnkmhppfeiaaDoor
open Go.RowKit Go.Proofs
theorem canS_no {L : List Tm} {g : Tm} (h : may g = false ∨ mayL L = false) : canS L g = false := by
  cases e : canS L g with
  | false => rfl
  | true =>
    obtain ⟨h1, h2, _⟩ := canS_iff.1 e
    rcases h with h | h
    · rw [h] at h1; cases h1
    · rw [h] at h2; cases h2
set_option maxRecDepth 100000 in
set_option maxHeartbeats 1000000 in
theorem Can_any (g : Tm) (L : List Tm) (vg v : Value) (w : World) (hG : TR w Any g vg) (hT : TS w Any L v) (hTab : Tab w) :
    Calls Tryd.prog 17 #[vg, v] w fun e w' => e = .returned (.bool (canS L g)) ∧ Below w.heap.size w w' := by
  obtain ⟨A, c, rfl⟩ := hG.form3
  obtain ⟨AL, cL, rfl, hc1, hc2⟩ := hT.form
  have HT := Lib.hid hT
  have HG := Lib.hid hG
  have HTab := Lib.hid hTab
  clear hT hG hTab
  obtain ⟨W0, hW0⟩ : ∃ W0, W0 = w.alloc (.cells #[.int .i64 g.k, .int .i64 g.n, .slice A g.args.length c] 25) := ⟨_, rfl⟩
  have HB0 : Hid (Below w.heap.size w W0) := by rw [hW0]; exact bself _ _
  have HA0 : Hid (W0.heap[w.heap.size]? = some (.cells #[.int .i64 g.k, .int .i64 g.n, .slice A g.args.length c] 25 (0, 0))) := by rw [hW0]; exact heap_alloc_new _ _
  have HMG0 : Hid (∀ w1, Below w.heap.size w w1 → Calls Tryd.prog 30 #[.agg #[.int .i64 g.k, .int .i64 g.n, .slice A g.args.length c]] w1 fun e w' => e = .returned (.bool (may g)) ∧ Below w1.heap.size w1 w') := fun w1 hb => may_any g _ w1 (HG.out.bel hb)
  have HML0 : Hid (∀ w1, Below w.heap.size w w1 → Calls Tryd.prog 37 #[.slice AL L.length cL] w1 fun e w' => e = .returned (.bool (mayL L)) ∧ Below w1.heap.size w1 w') := fun w1 hb => mays_any L _ w1 (HT.out.bel hb)
  have hsz : w.heap.size + 1 = W0.heap.size := by rw [hW0]; simp
  obtain ⟨q0, q1, q2, _, _, _⟩ := cell3_load HA0.out
  have l0 : ∀ x : Later W0.heap.size W0, x.w.cell? ⟨w.heap.size, 0, none⟩ = some (.int .i64 g.k) := fun x => x.cell q0 (by simp; omega)
  have l1 : ∀ x : Later W0.heap.size W0, x.w.cell? ⟨w.heap.size, 1, none⟩ = some (.int .i64 g.n) := fun x => x.cell q1 (by simp; omega)
  have l2 : ∀ x : Later W0.heap.size W0, x.w.cell? ⟨w.heap.size, 2, none⟩ = some (.slice A g.args.length c) := fun x => x.cell q2 (by simp; omega)
  clear q0 q1 q2 hsz
  cases hmg : may g with
  | false =>
    rw [canS_no (.inl hmg)]
    rw [hmg] at HMG0
    have HMX : Hid (∀ x : Later W0.heap.size W0, Calls Tryd.prog 30 #[.agg #[.int .i64 g.k, .int .i64 g.n, .slice A g.args.length c]] x.w fun e w' => e = .returned (.bool false) ∧ Below x.w.heap.size x.w w') := fun x => HMG0.out x.w (HB0.out.trans (x.2.mono HB0.out.size))
    clear hmg
    go_enter Tryd.func17, Tryd.ntmps17
    go_wp2_with fail
    rw [← hW0]
    clear hW0
    refine wp_region_later W0.heap.size (by kernel_rfl) ?_
    repeat (first | go_big_quiet_step ((go_at_call 30; exact later_call (HMX.out _) (Nat.le_refl _))) | quiet_step ((go_at_call 30; exact later_call (HMX.out _) (Nat.le_refl _))))
    refine wpQuiet_nil (later_all ?_)
    intro wx hx
    go_wp2_with fail
    go_ret
    exact ⟨rfl, bthen HB0.out hx⟩
  | true =>
  cases hml : mayL L with
  | false =>
    rw [canS_no (.inr hml)]
    rw [hmg] at HMG0
    rw [hml] at HML0
    have HMX : Hid (∀ x : Later W0.heap.size W0, Calls Tryd.prog 30 #[.agg #[.int .i64 g.k, .int .i64 g.n, .slice A g.args.length c]] x.w fun e w' => e = .returned (.bool true) ∧ Below x.w.heap.size x.w w') := fun x => HMG0.out x.w (HB0.out.trans (x.2.mono HB0.out.size))
    have HMY : Hid (∀ x : Later W0.heap.size W0, Calls Tryd.prog 37 #[.slice AL L.length cL] x.w fun e w' => e = .returned (.bool false) ∧ Below x.w.heap.size x.w w') := fun x => HML0.out x.w (HB0.out.trans (x.2.mono HB0.out.size))
    clear hmg hml
    go_enter Tryd.func17, Tryd.ntmps17
    go_wp2_with fail
    rw [← hW0]
    clear hW0
    refine wp_region_later W0.heap.size (by kernel_rfl) ?_
    repeat (first | go_big_quiet_step ((first | (go_at_call 30; exact later_call (HMX.out _) (Nat.le_refl _)) | (go_at_call 37; exact later_call (HMY.out _) (Nat.le_refl _)))) | quiet_step ((first | (go_at_call 30; exact later_call (HMX.out _) (Nat.le_refl _)) | (go_at_call 37; exact later_call (HMY.out _) (Nat.le_refl _)))))
    refine wpQuiet_nil (later_all ?_)
    intro wx hx
    go_wp2_with fail
    go_ret
    exact ⟨rfl, bthen HB0.out hx⟩
  | true =>
    rw [hmg] at HMG0
    rw [hml] at HML0
    have HMG := HMG0
    have HML := HML0
    have HMA := Lib.hid hmg
    have HMM := Lib.hid hml
    have HGO := Lib.hid (good_ord hmg)
    have HLE : Hid (∀ w1, Below w.heap.size w w1 → Calls Tryd.prog 38 #[.slice AL L.length cL] w1 (LR w1 L)) := fun w1 hb => learn_any L _ w1 HMM.out (HT.out.bel hb) (HTab.out.bel hb)
    have HOR : Hid (∀ m w1, Below w.heap.size w w1 → FormsAt w1 m → Calls Tryd.prog 40 #[.agg #[.int .i64 g.k, .int .i64 g.n, .slice A g.args.length c], .map (some m)] w1 fun e w' => ∃ v', e = .returned v' ∧ TR w' (fun b => w1.heap.size ≤ b) (ord g) v' ∧ Below w1.heap.size w1 w') := fun m w1 hb hF =>
      order_any _ g _ m w1 (Nat.le_refl _) ((may_iff g).1 HMA.out).1 ((may_iff g).1 HMA.out).2 (HG.out.bel hb) hF (HTab.out.bel hb)
    clear hmg hml HMG0 HML0 l0 l1 l2
    go_enter Tryd.func17, Tryd.ntmps17
    go_wp2_with fail
    rw [← hW0]
    clear hW0
    refine wp_region_post 11 (R := fun _ => Grew None_) (B := fun _ _ => True) (C := Grew (None_) W0)
      [fun v _ => v = .agg #[.int .i64 g.k, .int .i64 g.n, .slice A g.args.length c],
        fun v _ => v = .bool true,
        fun v _ => v = .bool true,
        fun v _ => v = .slice AL L.length cL,
        fun v _ => v = .bool true,
        fun v _ => v = .bool true,
        fun v _ => v = .bool true,
        fun v _ => v = .slice AL L.length cL,
        fun v w' => ∃ b ts, v = .map (some b) ∧ KM w' Any b ts ∧ Learnt L ts,
        fun v _ => v = .agg #[.int .i64 g.k, .int .i64 g.n, .slice A g.args.length c],
        fun v w' => ∃ m, v = .map (some m) ∧ FormsAt w' m]
      [[], [0], [1], [2], [2, 3], [2, 4], [5], [6], [6, 7], [6], [6]] (by kernel_rfl) (by kernel_rfl) (by kernel_rfl) (fun _ _ _ _ h h' => h.trans h') ?_ (fun _ _ _ _ _ _ _ _ _ _ _ => trivial) (Grew.drew _ _) (fun _ _ => trivial) ?_ ?_
    · intro i j v w1 w2 _ _ _ hg
      refine lasts ?_ j v
      simp only [List.forall_mem_cons, List.not_mem_nil, false_implies, implies_true, and_true]
      refine ⟨fun _ h => h, fun _ h => h, fun _ h => h, fun _ h => h, fun _ h => h, fun _ h => h, fun _ h => h, fun _ h => h, fun _ ⟨b, ts, e, h1, h2⟩ => ⟨b, ts, e, h1.bel hg.all, h2⟩, fun _ h => h, fun _ ⟨m, e, h⟩ => ⟨m, e, h.bel hg.all⟩⟩
    · intro vals
      simp only [List.take_succ_cons, List.take_zero, Steps_, List.headD_cons, List.tail_cons, List.forall_mem_cons, List.not_mem_nil, false_implies, implies_true, and_true, List.getD_cons_zero, List.getD_cons_succ, Act.put, List.setIfInBounds_toArray, List.set_cons_zero, List.set_cons_succ, Nat.zero_add, Nat.reduceAdd]
      refine ⟨?_, ?_, ?_, ?_, ?_, ?_, ?_, ?_, ?_, ?_, ?_⟩
      · rintro w1 hC _ _
        obtain ⟨q0, q1, q2, _, _, _⟩ := cell3_load (hC.heap HA0.out fun h => h.elim)
        go_wp2_with fail
        exact ⟨_, rfl, Grew.refl _ _, rfl⟩
      · rintro w1 hC _ h0
        rw [h0]
        have hm := HMG.out w1 (bthen HB0.out hC.all)
        go_wp2_with (go_at_call 30; refine hm.mono ?_; rintro e w2 ⟨rfl, hb2⟩)
        exact ⟨_, rfl, Grew.of_below hb2, rfl⟩
      · rintro w1 hC _ h1
        rw [h1]
        go_wp2_with fail
        exact ⟨_, rfl, Grew.refl _ _, rfl⟩
      · rintro w1 hC _ h2
        rw [h2]
        go_wp2_with fail
        exact ⟨_, rfl, Grew.refl _ _, rfl⟩
      · rintro w1 hC _ ⟨h2, h3⟩
        rw [h2, h3]
        have hm := HML.out w1 (bthen HB0.out hC.all)
        go_wp2_with (go_at_call 37; refine hm.mono ?_; rintro e w2 ⟨rfl, hb2⟩)
        exact ⟨_, rfl, Grew.of_below hb2, rfl⟩
      · rintro w1 hC _ ⟨h2, h4⟩
        rw [h2, h4]
        go_wp2_with fail
        exact ⟨_, rfl, Grew.refl _ _, rfl⟩
      · rintro w1 hC _ h5
        rw [h5]
        go_wp2_with fail
        exact ⟨_, rfl, Grew.refl _ _, rfl⟩
      · rintro w1 hC _ h6
        rw [h6]
        go_wp2_with fail
        exact ⟨_, rfl, Grew.refl _ _, rfl⟩
      · rintro w1 hC _ ⟨h6, h7⟩
        rw [h6, h7]
        have hle := HLE.out w1 (bthen HB0.out hC.all)
        go_wp2_with (go_at_call 38; refine hle.mono ?_; rintro e w2 ⟨b, ts, rfl, _, hk2, hl2, hb2⟩)
        exact ⟨_, rfl, (Grew.of_below (hb2)), b, ts, rfl, hk2.any, hl2⟩
      · rintro w1 hC _ h6
        rw [h6]
        obtain ⟨q0, q1, q2, _, _, _⟩ := cell3_load (hC.heap HA0.out fun h => h.elim)
        go_wp2_with fail
        exact ⟨_, rfl, Grew.refl _ _, rfl⟩
      · rintro w1 hC _ h6
        rw [h6]
        go_wp2_with (go_at_call 41; refine (forms_any _).mono ?_; rintro e w2 ⟨rfl, hF, hb2⟩)
        exact ⟨_, rfl, Grew.of_below hb2, _, rfl, hF⟩
    · intro vals w1 hC hv
      have x0 : vals 0 = .agg #[.int .i64 g.k, .int .i64 g.n, .slice A g.args.length c] := hv 0 (by omega)
      have x1 : vals 1 = .bool true := hv 1 (by omega)
      have x2 : vals 2 = .bool true := hv 2 (by omega)
      have x3 : vals 3 = .slice AL L.length cL := hv 3 (by omega)
      have x4 : vals 4 = .bool true := hv 4 (by omega)
      have x5 : vals 5 = .bool true := hv 5 (by omega)
      have x6 : vals 6 = .bool true := hv 6 (by omega)
      have x7 : vals 7 = .slice AL L.length cL := hv 7 (by omega)
      generalize hgoal : wpList _ _ _ _ _ _ = G; obtain ⟨b, ts, x8, hk8, hl8⟩ : ∃ b ts, vals 8 = .map (some b) ∧ KM w1 Any b ts ∧ Learnt L ts := hv 8 (by omega)
      have x9 : vals 9 = .agg #[.int .i64 g.k, .int .i64 g.n, .slice A g.args.length c] := hv 9 (by omega)
      obtain ⟨m, x10, hF10⟩ : ∃ m, vals 10 = .map (some m) ∧ FormsAt w1 m := hv 10 (by omega); subst hgoal
      simp only [List.take_succ_cons, List.take_zero, List.drop_succ_cons, List.drop_zero, List.drop_nil, lexA, Act.put, List.setIfInBounds_toArray, List.set_cons_zero, List.set_cons_succ, Nat.zero_add, Nat.reduceAdd, x0, x1, x2, x3, x4, x5, x6, x7, x8, x9, x10]
      clear x0 x1 x2 x3 x4 x5 x6 x7 x8 x9 x10 hv
      have hbb := bthen HB0.out hC.all
      have hor := HOR.out m w1 hbb hF10
      have HK8 := Lib.hid hk8
      have HL8 := Lib.hid hl8
      have HBB := Lib.hid hbb
      clear hbb hk8 hl8 hF10 hC
      go_wp2_with (first | (go_at_call 40; refine hor.mono ?_; rintro e w2 ⟨v2, rfl, hT2, hb2⟩; have hcan := can_any (ord g) v2 w2 (HK8.out.bel hb2) HGO.out.1 HGO.out.2.1 hT2.any (HTab.out.bel (bthen HBB.out hb2)); rw [HL8.out.can HMA.out HMM.out] at hcan; have HB2 := Lib.hid (bthen HBB.out hb2); clear hT2 hb2) | (go_at_call 39; refine hcan.mono ?_; rintro e w3 ⟨rfl, hb3⟩))
      go_ret
      exact ⟨rfl, bthen HB2.out hb3⟩
end Go.Proofs.YtfhpnkmhppfeiaaDoor
