/- terms.Of. -/
import Derived.Test.YtfhpnkmhppfeiaaDoorA24
import Derived.Test.YtfhpnkmhppfeiaaDoorR10
set_option linter.unusedVariables false
set_option linter.unusedSimpArgs false
namespace Go.Proofs.YtfhpnkmhppfeiaaDoor
open Go.RowKit Go.Proofs
/-- What Of answers. -/
def OfT (w : World) (s : Bs) (e : Ending) (w' : World) : Prop :=
  ∃ (k n : Int) (A : Option Addr) (len c : Nat) (x : Int), e = .returned (.tuple #[.agg #[.int .i64 k, .int .i64 n, .slice A len c], .int .i64 x]) ∧ Below w.heap.size w w' ∧
    ((x = 0 ∧ ∃ t, TR w' (fun b => w.heap.size ≤ b) t (.agg #[.int .i64 k, .int .i64 n, .slice A len c]) ∧ may t = true ∧ txt t = s) ∨
     (x = 4 ∧ k = 0 ∧ n = 0 ∧ A = none ∧ len = 0 ∧ c = 0 ∧ ∀ t, rng t → may t = true → txt t ≠ s))
set_option maxRecDepth 100000 in
set_option maxHeartbeats 4000000 in
theorem tOf_any (s : Bs) (hs : s.length ≤ 100000) (w : World) (hTab : Tab w) (hE : Errs w) : Calls Tryd.prog 32 #[.string ⟨s.toArray⟩] w (OfT w s) := by
  have z := bs_size s
  have HTab := Lib.hid hTab
  have HE := Lib.hid hE
  have HB2 : Hid (2 < w.heap.size) := by
    obtain ⟨_, c, d, h2⟩ := hE
    have b2 := World.block_lt_of_cell? w _ h2
    exact Lib.hid (by simpa using b2)
  clear hTab hE
  go_enter Tryd.func32, Tryd.ntmps32
  go_upto_region 2 with fail
  obtain ⟨W0, hW0⟩ : ∃ W0 : World, W0 = (w.alloc (.cells #[.int .i64 0, .int .i64 0, .slice none 0 0] 25)).alloc (.cells #[.int .i64 2000] 3) := ⟨_, rfl⟩
  have HB0 : Hid (Below w.heap.size w W0) := by rw [hW0]; exact balloc (bself w _) _
  have HS0 : Hid (W0.heap.size = w.heap.size + 2) := by rw [hW0]; unfold Hid; simp
  have HR0 : Hid (W0.heap[w.heap.size]? = some (.cells #[.int .i64 0, .int .i64 0, .slice none 0 0] 25 (0, 0))) := by rw [hW0]; unfold Hid; rw [Below.heap_alloc _ _ _ (by simp)]; exact heap_alloc_new _ _
  have HL0 : Hid (W0.heap[w.heap.size + 1]? = some (.cells #[.int .i64 2000] 3 (0, 0))) := by rw [hW0]; exact heap_alloc2 _ _ _
  rw [← hW0]
  clear hW0
  go_upto_region 3 with (first
    | (go_at_call 41; refine (forms_any _).mono ?_; rintro e w1 ⟨rfl, hF, hb1⟩; have HB1 := Lib.hid hb1; have HF1 := Lib.hid hF; clear hb1 hF)
    | (go_at_call 51; refine (read_text 2000 s 2000 W0.heap.size (w.heap.size + 1) w1 (by omega) hs (by omega) (by omega) ((HB1.out.block _ (by have := HS0.out; omega)).trans HL0.out) HF1.out (by have := HS0.out; omega) ((HE.out.bel HB0.out).bel HB1.out) (by have := HB2.out; omega)).mono ?_; rintro e w2 ⟨k, n, A, len, c, r, good, l', rfl, hl', hl1, hl2, hg2, hcase⟩; have HG2 := Lib.hid hg2; have HCASE := Lib.hid hcase; clear hl' hg2 hcase))
  have hs2 : w.heap.size + 2 ≤ w2.heap.size := by have := HG2.out.size; have := HB1.out.size; have := HS0.out; omega
  obtain ⟨W5, hW5⟩ : ∃ W5, W5 = w2.alloc (.cells #[.int .i64 k, .int .i64 n, .slice A len c] 25) := ⟨_, rfl⟩
  have HO : Hid (OW w w2.heap.size k n (.slice A len c) W5) := by
    rw [hW5]
    refine ⟨by omega, balloc ?_ _, ?_, heap_alloc_new _ _⟩
    · exact (bthen HB0.out HB1.out).trans (HG2.out.below (by have := HS0.out; have := HB1.out.size; omega) fun k hk => by omega)
    · rw [Below.heap_alloc _ _ _ (by omega)]; exact HG2.out.heap ((HB1.out.block _ (by have := HS0.out; omega)).trans HR0.out) fun e => by omega
  have HB25 : Hid (Below w2.heap.size w2 W5) := by rw [hW5]; exact bself _ _
  have HS5 : Hid (w2.heap.size < W5.heap.size) := by rw [hW5]; unfold Hid; simp
  rw [← hW5]
  clear hW5 hl1 hl2
  have l0 : ∀ x : Later W5.heap.size W5, x.w.cell? ⟨w2.heap.size, 0, none⟩ = some (.int .i64 k) := fun x => x.cell ((blk_cell HO.out.hx 0).trans rfl) HS5.out
  have l1 : ∀ x : Later W5.heap.size W5, x.w.cell? ⟨w2.heap.size, 1, none⟩ = some (.int .i64 n) := fun x => x.cell ((blk_cell HO.out.hx 1).trans rfl) HS5.out
  have l2 : ∀ x : Later W5.heap.size W5, x.w.cell? ⟨w2.heap.size, 2, none⟩ = some (.slice A len c) := fun x => x.cell ((blk_cell HO.out.hx 2).trans rfl) HS5.out
  cases good with
  | false =>
    have HNO : Hid (∀ t, rng t → may t = true → txt t ≠ s) := fun t hr hm ht => by
      obtain ⟨m1, m2⟩ := (may_iff t).1 hm
      have hw : Want s 0 2000 t [] := ⟨m1, hr, by simp [ht], noHd_nil, by omega⟩
      rcases HCASE.out with ⟨_, h⟩ | ⟨_, _, h, _⟩
      · exact h _ _ hw
      · cases h
    clear l0 l1 l2
    go_wp2_with fail
    refine wp_region_later W5.heap.size (by kernel_rfl) ?_
    repeat (first | go_big_quiet_step (fail) | quiet_step (fail))
    refine wpQuiet_nil (later_all ?_)
    intro wx hx
    have HX := Lib.hid (HO.out.bel hx)
    clear hx
    have r0 := (blk_cell HX.out.hr 0).trans rfl; have r1 := (blk_cell HX.out.hr 1).trans rfl; have r2 := (blk_cell HX.out.hr 2).trans rfl; have f0 := blk_free HX.out.hr 0; have f1 := blk_free HX.out.hr 1; have f2 := blk_free HX.out.hr 2; have t0 := (blk_cell HX.out.hx 0).trans rfl; have t1 := (blk_cell HX.out.hx 1).trans rfl; have t2 := (blk_cell HX.out.hx 2).trans rfl
    go_wp2_with fail
    obtain ⟨z0, z1, z2⟩ : _ ∧ _ ∧ _ := ⟨HX.out.cells (.int .i64 0) (.int .i64 0) (.slice none 0 0) 0, HX.out.cells (.int .i64 0) (.int .i64 0) (.slice none 0 0) 1, HX.out.cells (.int .i64 0) (.int .i64 0) (.slice none 0 0) 2⟩
    exact bodyPost_ret (v := .tuple #[.agg #[.int .i64 0, .int .i64 0, .slice none 0 0], .int .i64 4]) (by simp [results, Tryd.results32, go_sem, z0, z1, z2]) rfl ⟨0, 0, none, 0, 0, 4, rfl, (HX.out.fin _ _ _).1, .inr ⟨rfl, rfl, rfl, rfl, rfl, rfl, HNO.out⟩⟩
  | true =>
    obtain ⟨t, q, a1, a2, a3, a4⟩ : ∃ (t : Tm) (q : Nat), q ≤ s.length ∧ r = s.drop q ∧ TR w2 (fun b => w1.heap.size ≤ b) t (.agg #[.int .i64 k, .int .i64 n, .slice A len c]) ∧ ∀ t' x, Want s 0 2000 t' x → t' = t ∧ q = (txt t').length := by
      rcases HCASE.out with ⟨h, _⟩ | ⟨t, q, _, _, b1, b2, b3, b4⟩
      · cases h
      · exact ⟨t, q, b1, b2, b3, fun t' x h => ⟨(b4 t' x h).1, (b4 t' x h).2.1⟩⟩
    by_cases hre : r = []
    rotate_left
    · have HNO : Hid (∀ t, rng t → may t = true → txt t ≠ s) := fun t' hr hm ht => by
        obtain ⟨m1, m2⟩ := (may_iff t').1 hm
        have hw : Want s 0 2000 t' [] := ⟨m1, hr, by simp [ht], noHd_nil, by omega⟩
        have := (a4 _ _ hw).2
        rw [ht] at this
        exact hre (by rw [a2, this]; simp)
      have e1 : r.isEmpty = false := by cases r with | nil => exact absurd rfl hre | cons _ _ => rfl
      clear l0 l1 l2 hre a2 a3 a4
      go_wp2_with fail
      refine wp_region_later W5.heap.size (by kernel_rfl) ?_
      repeat (first | go_big_quiet_step (fail) | quiet_step (fail))
      refine wpQuiet_nil (later_all ?_)
      intro wx hx
      have HX := Lib.hid (HO.out.bel hx)
      clear hx
      have r0 := (blk_cell HX.out.hr 0).trans rfl; have r1 := (blk_cell HX.out.hr 1).trans rfl; have r2 := (blk_cell HX.out.hr 2).trans rfl; have f0 := blk_free HX.out.hr 0; have f1 := blk_free HX.out.hr 1; have f2 := blk_free HX.out.hr 2; have t0 := (blk_cell HX.out.hx 0).trans rfl; have t1 := (blk_cell HX.out.hx 1).trans rfl; have t2 := (blk_cell HX.out.hx 2).trans rfl
      go_wp2_with fail
      obtain ⟨z0, z1, z2⟩ : _ ∧ _ ∧ _ := ⟨HX.out.cells (.int .i64 0) (.int .i64 0) (.slice none 0 0) 0, HX.out.cells (.int .i64 0) (.int .i64 0) (.slice none 0 0) 1, HX.out.cells (.int .i64 0) (.int .i64 0) (.slice none 0 0) 2⟩
      exact bodyPost_ret (v := .tuple #[.agg #[.int .i64 0, .int .i64 0, .slice none 0 0], .int .i64 4]) (by simp [results, Tryd.results32, go_sem, z0, z1, z2]) rfl ⟨0, 0, none, 0, 0, 4, rfl, (HX.out.fin _ _ _).1, .inr ⟨rfl, rfl, rfl, rfl, rfl, rfl, HNO.out⟩⟩
    subst hre
    have HUN : Hid (∀ t', rng t' → may t' = true → txt t' = s → t' = t) := fun t' hr hm ht => by
      obtain ⟨m1, m2⟩ := (may_iff t').1 hm
      exact (a4 t' [] ⟨m1, hr, by simp [ht], noHd_nil, by omega⟩).1
    have HT := Lib.hid (a3.bel HB25.out)
    clear a2 a3 a4
    have hmay : Hid (∀ x : Later W5.heap.size W5, Calls Tryd.prog 30 #[.agg #[.int .i64 k, .int .i64 n, .slice A len c]] x.w fun e w' => e = .returned (.bool (may t)) ∧ Below x.w.heap.size x.w w') := fun x => may_any t _ x.w (HT.out.any.bel x.2)
    cases hm : may t with
    | false =>
      have HNO : Hid (∀ t, rng t → may t = true → txt t ≠ s) := fun t' hr hm' ht => by
        have := HUN.out t' hr hm' ht
        subst this
        rw [hm] at hm'; cases hm'
      rw [hm] at hmay
      clear hm
      go_wp2_with fail
      refine wp_region_later W5.heap.size (by kernel_rfl) ?_
      repeat (first | go_big_quiet_step ((go_at_call 30; exact later_call (hmay.out _) (Nat.le_refl _))) | quiet_step ((go_at_call 30; exact later_call (hmay.out _) (Nat.le_refl _))))
      refine wpQuiet_nil (later_all ?_)
      intro wx hx
      have HX := Lib.hid (HO.out.bel hx)
      clear hx
      have r0 := (blk_cell HX.out.hr 0).trans rfl; have r1 := (blk_cell HX.out.hr 1).trans rfl; have r2 := (blk_cell HX.out.hr 2).trans rfl; have f0 := blk_free HX.out.hr 0; have f1 := blk_free HX.out.hr 1; have f2 := blk_free HX.out.hr 2; have t0 := (blk_cell HX.out.hx 0).trans rfl; have t1 := (blk_cell HX.out.hx 1).trans rfl; have t2 := (blk_cell HX.out.hx 2).trans rfl
      go_wp2_with fail
      obtain ⟨z0, z1, z2⟩ : _ ∧ _ ∧ _ := ⟨HX.out.cells (.int .i64 0) (.int .i64 0) (.slice none 0 0) 0, HX.out.cells (.int .i64 0) (.int .i64 0) (.slice none 0 0) 1, HX.out.cells (.int .i64 0) (.int .i64 0) (.slice none 0 0) 2⟩
      exact bodyPost_ret (v := .tuple #[.agg #[.int .i64 0, .int .i64 0, .slice none 0 0], .int .i64 4]) (by simp [results, Tryd.results32, go_sem, z0, z1, z2]) rfl ⟨0, 0, none, 0, 0, 4, rfl, (HX.out.fin _ _ _).1, .inr ⟨rfl, rfl, rfl, rfl, rfl, rfl, HNO.out⟩⟩
    | true =>
      have HM := Lib.hid ((may_iff t).1 hm)
      have HMM := Lib.hid hm
      clear hmay hm
      have HTB : Hid (∀ w3, Below W5.heap.size W5 w3 → Tab w3) := fun w3 hb => HTab.out.bel (bthen HO.out.hb hb)
      obtain ⟨d, hd⟩ : ∃ d, d = (txt t != s) := ⟨_, rfl⟩
      have HD := Lib.hid hd
      clear hd l0 l1 l2
      have zt := bs_size (txt t)
      go_wp2_with fail
      refine wp_region_post 18 (R := fun _ => Grew None_) (B := fun _ _ => True) (C := Grew (None_) W5)
        [fun v _ => v = .bool true,
          fun v _ => v = .bool false,
          fun v _ => v = .bool false,
          fun v _ => v = .string ⟨([] : Bs).toArray⟩,
          fun v _ => v = .bool false,
          fun v _ => v = .bool false,
          fun v _ => v = .bool false,
          fun v _ => v = .agg #[.int .i64 k, .int .i64 n, .slice A len c],
          fun v _ => v = .bool true,
          fun v _ => v = .bool false,
          fun v _ => v = .bool false,
          fun v _ => v = .bool false,
          fun v _ => v = .agg #[.int .i64 k, .int .i64 n, .slice A len c],
          fun v w' => ∃ m, v = .map (some m) ∧ FormsAt w' m,
          fun v _ => v = .string ⟨(txt t).toArray⟩,
          fun v _ => v = .string ⟨s.toArray⟩,
          fun v _ => v = .bool d,
          fun v _ => v = .bool d]
        [[], [0], [1], [2], [2, 3], [2, 4], [5], [6], [6, 7], [6, 8], [6, 9], [10], [11], [11], [11, 12, 13], [11], [11, 14, 15], [11, 16]] (by kernel_rfl) (by kernel_rfl) (by kernel_rfl) (fun _ _ _ _ h h' => h.trans h') ?_ (fun _ _ _ _ _ _ _ _ _ _ _ => trivial) (Grew.drew _ _) (fun _ _ => trivial) ?_ ?_
      · intro i j v w1 w2 _ _ _ hg
        refine lasts ?_ j v
        simp only [List.forall_mem_cons, List.not_mem_nil, false_implies, implies_true, and_true]
        refine ⟨fun _ h => h, fun _ h => h, fun _ h => h, fun _ h => h, fun _ h => h, fun _ h => h, fun _ h => h, fun _ h => h, fun _ h => h, fun _ h => h, fun _ h => h, fun _ h => h, fun _ h => h, fun _ ⟨m, e, h⟩ => ⟨m, e, h.bel hg.all⟩, fun _ h => h, fun _ h => h, fun _ h => h, fun _ h => h⟩
      · intro vals
        simp only [List.take_succ_cons, List.take_zero, Steps_, List.headD_cons, List.tail_cons, List.forall_mem_cons, List.not_mem_nil, false_implies, implies_true, and_true, List.getD_cons_zero, List.getD_cons_succ, Act.put, List.setIfInBounds_toArray, List.set_cons_zero, List.set_cons_succ, Nat.zero_add, Nat.reduceAdd]
        refine ⟨?_, ?_, ?_, ?_, ?_, ?_, ?_, ?_, ?_, ?_, ?_, ?_, ?_, ?_, ?_, ?_, ?_, ?_⟩
        · rintro w1 hC _ _
          go_wp2_with fail
          exact ⟨_, rfl, Grew.refl _ _, rfl⟩
        · rintro w1 hC _ h0
          rw [h0]
          go_wp2_with fail
          exact ⟨_, rfl, Grew.refl _ _, rfl⟩
        · rintro w1 hC _ h1
          rw [h1]
          go_wp2_with fail
          exact ⟨_, rfl, Grew.refl _ _, rfl⟩
        · rintro w1 hC _ h2
          rw [h2]
          go_wp2_with fail
          exact ⟨_, rfl, Grew.refl _ _, rfl⟩
        · rintro w1 hC _ ⟨h2, h3⟩
          rw [h2, h3]
          go_wp2_with fail
          exact ⟨_, rfl, Grew.refl _ _, rfl⟩
        · rintro w1 hC _ ⟨h2, h4⟩
          rw [h2, h4]
          go_wp2_with fail
          exact ⟨_, rfl, Grew.refl _ _, rfl⟩
        · rintro w1 hC _ h5
          rw [h5]
          go_wp2_with fail
          exact ⟨_, rfl, Grew.refl _ _, rfl⟩
        · rintro w1 hC _ h6
          obtain ⟨q0, q1, q2, _, _, _⟩ := cell3_load (hC.heap HO.out.hx fun h => h.elim)
          rw [h6]
          go_wp2_with fail
          exact ⟨_, rfl, Grew.refl _ _, rfl⟩
        · rintro w1 hC _ ⟨h6, h7⟩
          rw [h6, h7]
          have hmy := may_any t _ w1 (HT.out.any.bel hC.all)
          rw [HMM.out] at hmy
          go_wp2_with (go_at_call 30; refine hmy.mono ?_; rintro e w2 ⟨rfl, hb2⟩)
          exact ⟨_, rfl, Grew.of_below hb2, rfl⟩
        · rintro w1 hC _ ⟨h6, h8⟩
          rw [h6, h8]
          go_wp2_with fail
          exact ⟨_, rfl, Grew.refl _ _, rfl⟩
        · rintro w1 hC _ ⟨h6, h9⟩
          rw [h6, h9]
          go_wp2_with fail
          exact ⟨_, rfl, Grew.refl _ _, rfl⟩
        · rintro w1 hC _ h10
          rw [h10]
          go_wp2_with fail
          exact ⟨_, rfl, Grew.refl _ _, rfl⟩
        · rintro w1 hC _ h11
          obtain ⟨q0, q1, q2, _, _, _⟩ := cell3_load (hC.heap HO.out.hx fun h => h.elim)
          rw [h11]
          go_wp2_with fail
          exact ⟨_, rfl, Grew.refl _ _, rfl⟩
        · rintro w1 hC _ h11
          rw [h11]
          go_wp2_with (go_at_call 41; refine (forms_any w1).mono ?_; rintro e w2 ⟨rfl, hf, hb⟩; have HF2 := Lib.hid hf; have HB2 := Lib.hid hb; clear hf hb)
          exact ⟨_, rfl, Grew.of_below HB2.out, _, rfl, HF2.out⟩
        · rintro w1 hC _ ⟨h11, h12, h13⟩
          obtain ⟨m, h13, hf⟩ := h13
          rw [h13]
          rw [h11, h12]
          have htx := text_any _ t _ m w1 (Nat.le_refl _) HM.out.1 HM.out.2 (HT.out.any.bel hC.all) hf (HTB.out _ hC.all)
          clear hf
          go_wp2_with (go_at_call 50; refine htx.mono ?_; rintro e w2 ⟨rfl, hb2⟩)
          exact ⟨_, rfl, Grew.of_below hb2, rfl⟩
        · rintro w1 hC _ h11
          rw [h11]
          go_wp2_with fail
          exact ⟨_, rfl, Grew.refl _ _, rfl⟩
        · rintro w1 hC _ ⟨h11, h14, h15⟩
          rw [h11, h14, h15]
          rw [HD.out]
          go_wp2_with fail
          exact ⟨_, rfl, Grew.refl _ _, rfl⟩
        · rintro w1 hC _ ⟨h11, h16⟩
          rw [h11, h16]
          go_wp2_with fail
          exact ⟨_, rfl, Grew.refl _ _, rfl⟩
      · intro vals w1 hC hv
        have x0 : vals 0 = .bool true := hv 0 (by omega)
        have x1 : vals 1 = .bool false := hv 1 (by omega)
        have x2 : vals 2 = .bool false := hv 2 (by omega)
        have x3 : vals 3 = .string ⟨([] : Bs).toArray⟩ := hv 3 (by omega)
        have x4 : vals 4 = .bool false := hv 4 (by omega)
        have x5 : vals 5 = .bool false := hv 5 (by omega)
        have x6 : vals 6 = .bool false := hv 6 (by omega)
        have x7 : vals 7 = .agg #[.int .i64 k, .int .i64 n, .slice A len c] := hv 7 (by omega)
        have x8 : vals 8 = .bool true := hv 8 (by omega)
        have x9 : vals 9 = .bool false := hv 9 (by omega)
        have x10 : vals 10 = .bool false := hv 10 (by omega)
        have x11 : vals 11 = .bool false := hv 11 (by omega)
        have x12 : vals 12 = .agg #[.int .i64 k, .int .i64 n, .slice A len c] := hv 12 (by omega)
        have x14 : vals 14 = .string ⟨(txt t).toArray⟩ := hv 14 (by omega)
        have x15 : vals 15 = .string ⟨s.toArray⟩ := hv 15 (by omega)
        have x16 : vals 16 = .bool d := hv 16 (by omega)
        have x17 : vals 17 = .bool d := hv 17 (by omega)
        simp only [List.take_succ_cons, List.take_zero, List.drop_succ_cons, List.drop_zero, List.drop_nil, lexA, Act.put, List.setIfInBounds_toArray, List.set_cons_zero, List.set_cons_succ, Nat.zero_add, Nat.reduceAdd, x0, x1, x2, x3, x4, x5, x6, x7, x8, x9, x10, x11, x12, x14, x15, x16, x17]
        clear x0 x1 x2 x3 x4 x5 x6 x7 x8 x9 x10 x11 x12 x14 x15 x16 x17 hv
        have HX := Lib.hid (HO.out.bel hC.all)
        have HTX := Lib.hid (HT.out.bel hC.all)
        generalize vals 13 = z13
        have r0 := (blk_cell HX.out.hr 0).trans rfl; have r1 := (blk_cell HX.out.hr 1).trans rfl; have r2 := (blk_cell HX.out.hr 2).trans rfl; have f0 := blk_free HX.out.hr 0; have f1 := blk_free HX.out.hr 1; have f2 := blk_free HX.out.hr 2; have t0 := (blk_cell HX.out.hx 0).trans rfl; have t1 := (blk_cell HX.out.hx 1).trans rfl; have t2 := (blk_cell HX.out.hx 2).trans rfl
        cases d with
        | true =>
          have HNO : Hid (∀ t, rng t → may t = true → txt t ≠ s) := fun t' hr hm' ht => by
            have := HUN.out t' hr hm' ht
            subst this
            have h2 := HD.out.symm
            rw [bne_iff_ne] at h2
            exact h2 ht
          go_wp2_with fail
          obtain ⟨z0, z1, z2⟩ : _ ∧ _ ∧ _ := ⟨HX.out.cells (.int .i64 0) (.int .i64 0) (.slice none 0 0) 0, HX.out.cells (.int .i64 0) (.int .i64 0) (.slice none 0 0) 1, HX.out.cells (.int .i64 0) (.int .i64 0) (.slice none 0 0) 2⟩
          exact bodyPost_ret (v := .tuple #[.agg #[.int .i64 0, .int .i64 0, .slice none 0 0], .int .i64 4]) (by simp [results, Tryd.results32, go_sem, z0, z1, z2]) rfl ⟨0, 0, none, 0, 0, 4, rfl, (HX.out.fin _ _ _).1, .inr ⟨rfl, rfl, rfl, rfl, rfl, rfl, HNO.out⟩⟩
        | false =>
          have hts : txt t = s := by
            have h2 := HD.out.symm
            rw [bne_eq_false_iff_eq] at h2
            exact h2
          have HTS := Lib.hid hts
          clear hts
          go_wp2_with fail
          obtain ⟨z0, z1, z2⟩ : _ ∧ _ ∧ _ := ⟨HX.out.cells (.int .i64 k) (.int .i64 n) (.slice A len c) 0, HX.out.cells (.int .i64 k) (.int .i64 n) (.slice A len c) 1, HX.out.cells (.int .i64 k) (.int .i64 n) (.slice A len c) 2⟩
          exact bodyPost_ret (v := .tuple #[.agg #[.int .i64 k, .int .i64 n, .slice A len c], .int .i64 0]) (by simp [results, Tryd.results32, go_sem, z0, z1, z2]) rfl ⟨k, n, A, len, c, 0, rfl, (HX.out.fin _ _ _).1, .inl ⟨rfl, t, (HTX.out.grew (HX.out.fin _ _ _).2 fun b hb e => by have := HS0.out; have := HB1.out.size; omega).mono fun b hb _ => by have := HS0.out; have := HB1.out.size; omega, HMM.out, HTS.out⟩⟩
end Go.Proofs.YtfhpnkmhppfeiaaDoor
