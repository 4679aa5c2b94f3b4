/- terms.order: a term in order. terms.May, Text, Order, name, Same. terms.Order, name, Same. name, Same. -/
import Derived.Test.YtfhpnkmhppfeiaaDoorB3
import Derived.Test.YtfhpnkmhppfeiaaDoorG1
/- terms.order: a term in order. -/
set_option linter.unusedVariables false
set_option linter.unusedSimpArgs false
namespace Go.Proofs.YtfhpnkmhppfeiaaDoor
open Go.RowKit Go.Proofs
theorem turn_gt {k : Int} {a b : Tm} (h : (k == 8) = true) (hg : bGt (txt a) (txt b) = true) : turn k [a, b] = [b, a] := by
  unfold turn
  simp only [beq_iff_eq] at h
  simp [h, hg]
theorem turn_le {k : Int} {a b : Tm} (hg : bGt (txt a) (txt b) = false) : turn k [a, b] = [a, b] := by
  unfold turn
  simp [hg]
theorem bLess_eq (a b : Bs) : bLess a b = Op.bytesLess a b := by
  induction a generalizing b with
  | nil => cases b <;> rfl
  | cons x r ih => cases b with
    | nil => rfl
    | cons y s => simp only [bLess, Op.bytesLess, ih]
theorem turn_ne {k : Int} {l : List Tm} (h : k ≠ 8) : turn k l = l := by
  unfold turn
  split
  · rw [if_neg (by simp [h])]
  · rfl
set_option maxRecDepth 100000 in
set_option maxHeartbeats 1000000 in
theorem order_any (N : Nat) : ∀ (t : Tm) (v : Value) (m : Nat) (w : World), size t ≤ N → form t = true → size t ≤ 2000 → TR w Any t v → FormsAt w m → Tab w →
    Calls Tryd.prog 40 #[v, .map (some m)] w fun e w' => ∃ v', e = .returned v' ∧ TR w' (fun b => w.heap.size ≤ b) (ord t) v' ∧ Below w.heap.size w w' := by
  induction N with
  | zero => intro t v m w h; have := size_pos t; omega
  | succ N ih =>
    rintro ⟨k, n, args⟩ v m w hN hf hsz hT hF hTab
    obtain ⟨s, rfl, hk, hn, hS⟩ := hT.inv
    obtain ⟨A, c, rfl, hc1, hc2⟩ := hS.form
    have hm := hF.lt
    have hshort := txt_short hT.rng hsz
    have HF := Lib.hid hf
    have HSZ := Lib.hid hsz
    have HS := Lib.hid hS
    have HN := Lib.hid hN
    have HTab := Lib.hid hTab
    clear hf hsz hS hN hT hTab hshort
    have hl3 : args.length ≤ 1000 := by
      have := (headOK_iff.1 (form_head HF.out).1).2.1
      rw [this]; unfold arity; repeat' split
      all_goals omega
    obtain ⟨i0, hi, hz0, hz1, hz2⟩ := info_parts info25
    go_enter Tryd.func40, Tryd.ntmps40
    go_wp2_with fail
    obtain ⟨W2, hW2⟩ : ∃ W2 : World, W2 = ((w.alloc (.cells #[.int .i64 k, .int .i64 n, .slice A args.length c] 25)).alloc (.cells #[.int .i64 0, .int .i64 0, .slice none 0 0] 25)).alloc (.cells #[.int .i64 k, .int .i64 n, .slice none 0 0] 25) := ⟨_, rfl⟩
    rw [← hW2]
    have HB2 := Lib.hid (show Below w.heap.size w W2 by rw [hW2]; exact balloc (balloc (bself w _) _) _)
    have HS2 := Lib.hid (show W2.heap.size = w.heap.size + 1 + 1 + 1 by rw [hW2]; simp)
    have HO2 := Lib.hid (show W2.heap[w.heap.size + 1 + 1]? = some (.cells #[.int .i64 k, .int .i64 n, .slice none 0 0] 25 (0, 0)) by
      rw [hW2]; have := heap_alloc_new ((w.alloc (.cells #[.int .i64 k, .int .i64 n, .slice A args.length c] 25)).alloc (.cells #[.int .i64 0, .int .i64 0, .slice none 0 0] 25)) (.cells #[.int .i64 k, .int .i64 n, .slice none 0 0] 25); simpa using this)
    have HC2 := Lib.hid (show W2.heap[w.heap.size + 1]? = some (.cells #[.int .i64 0, .int .i64 0, .slice none 0 0] 25 (0, 0)) by
      rw [hW2, Below.heap_alloc _ _ _ (by simp)]; have := heap_alloc_new (w.alloc (.cells #[.int .i64 k, .int .i64 n, .slice A args.length c] 25)) (.cells #[.int .i64 0, .int .i64 0, .slice none 0 0] 25); simpa using this)
    have HA2 := Lib.hid (show W2.heap[w.heap.size]? = some (.cells #[.int .i64 k, .int .i64 n, .slice A args.length c] 25 (0, 0)) by
      rw [hW2, Below.heap_alloc _ _ _ (by simp; omega), Below.heap_alloc _ _ _ (by simp)]; exact heap_alloc_new _ _)
    clear hW2
    go_loopw [16] (fun i wr => ∃ (j : Nat) (l : Value), i = .int .i64 j ∧ j ≤ args.length ∧ Hid (wr.heap[w.heap.size + 1 + 1]? = some (.cells #[.int .i64 k, .int .i64 n, l] 25 (0, 0))) ∧ Hid (OTS wr (w.heap.size + 1 + 1 + 1) (ordL (args.take j)) l) ∧ Hid (Below (w.heap.size + 1 + 1) W2 wr)) (fun i _ => args.length - (intOf i).toNat)
    case atStart => exact ⟨0, .slice none 0 0, rfl, Nat.zero_le _, HO2, OTS.nil _ _, Below.refl _ _⟩
    case round =>
      obtain ⟨j, l, rfl, hj, hO, hown, hb⟩ := hrel
      by_cases hlt : j < args.length
      · obtain ⟨a, ha⟩ : ∃ a, args[j]? = some a := ⟨_, List.getElem?_eq_getElem hlt⟩
        obtain ⟨b, o, A2, cc, rfl, _, hbs, c0, c1, c2, hTa⟩ := HS.out.at_ ha
        have HBW := Lib.hid (show Below w.heap.size w wr from HB2.out.trans (hb.out.mono (by omega)))
        have d0 := (HBW.out.cell (p := ⟨b, o + j * 3, none⟩) hbs).trans c0
        have d1 := (HBW.out.cell (p := ⟨b, o + j * 3 + 1, none⟩) hbs).trans c1
        have d2 := (HBW.out.cell (p := ⟨b, o + j * 3 + 2, none⟩) hbs).trans c2
        have HAA := Lib.hid ha
        have HTA := Lib.hid hTa
        clear ha c0 c1 c2 hTa
        obtain ⟨al, cl, rfl, hcl1, hcl2⟩ := hown.out.form
        go_wp2_with fail
        obtain ⟨W5, hW5⟩ : ∃ W5 : World, W5 = wr.alloc (.cells #[.int .i64 a.k, .int .i64 a.n, .slice A2 a.args.length cc] 25) := ⟨_, rfl⟩
        rw [← hW5]
        have HS5 := Lib.hid (show W5.heap.size = wr.heap.size + 1 by rw [hW5]; simp)
        have HB5 := Lib.hid (show Below wr.heap.size wr W5 by rw [hW5]; exact bself _ _)
        have HA5 := Lib.hid (show W5.heap[wr.heap.size]? = some (.cells #[.int .i64 a.k, .int .i64 a.n, .slice A2 a.args.length cc] 25 (0, 0)) by rw [hW5]; exact heap_alloc_new _ _)
        have hwrs : w.heap.size + 1 + 1 + 1 ≤ wr.heap.size := by have := hb.out.size; have := HS2.out; omega
        have HO5 := Lib.hid (show W5.heap[w.heap.size + 1 + 1]? = some (.cells #[.int .i64 k, .int .i64 n, .slice al (ordL (args.take j)).length cl] 25 (0, 0)) from (HB5.out.block _ (by omega)).trans hO.out)
        have HOW5 := Lib.hid (hown.out.bel HB5.out)
        clear hW5 hown hO
        refine wp_region_post 6 (R := fun _ => Grew None_) (B := fun _ _ => True) (C := Grew None_ W5)
          [fun v _ => v = .pointer (some ⟨w.heap.size + 1 + 1, 2, none⟩), fun v _ => v = .slice al (ordL (args.take j)).length cl, fun v _ => v = .agg #[.int .i64 a.k, .int .i64 a.n, .slice A2 a.args.length cc], fun v _ => v = .map (some m),
            fun v w' => TR w' (fun b => W5.heap.size ≤ b) (ord a) v,
            fun v w' => ∃ g d0 d1 d2, v = .slice (some ⟨g, 0, none⟩) 1 1 ∧ W5.heap.size ≤ g ∧ w'.heap[g]? = some (.cells #[d0, d1, d2] 25 (0, 0)) ∧ TR w' (fun b => W5.heap.size ≤ b) (ord a) (.agg #[d0, d1, d2])]
          [[], [0], [], [], [2, 3], [4]] (by kernel_rfl) (by kernel_rfl) (by kernel_rfl) (fun _ _ _ _ h h' => h.trans h') ?_ (fun _ _ _ _ _ _ _ _ _ _ _ => trivial) (Grew.drew _ _) (fun _ _ => trivial) ?_ ?_
        · intro i j v w1 w2 _ _ _ hg
          refine lasts ?_ j v
          simp only [List.forall_mem_cons, List.not_mem_nil, false_implies, implies_true, and_true]
          refine ⟨fun _ h => h, fun _ h => h, fun _ h => h, fun _ h => h, fun _ h => h.grew hg fun _ _ h => h.elim, fun _ h => ?_⟩
          obtain ⟨g, d0, d1, d2, e, h1, h2, h3⟩ := h
          exact ⟨g, d0, d1, d2, e, h1, hg.heap h2 fun h => h.elim, h3.grew hg fun _ _ h => h.elim⟩
        · intro vals
          simp only [List.take_succ_cons, List.take_zero, Steps_, List.headD_cons, List.tail_cons, List.forall_mem_cons, List.not_mem_nil, false_implies, implies_true, and_true, List.getD_cons_zero, List.getD_cons_succ, Act.put, List.setIfInBounds_toArray, List.set_cons_zero, List.set_cons_succ, Nat.zero_add, Nat.reduceAdd]
          refine ⟨?_, ?_, ?_, ?_, ?_, ?_⟩
          · intro w1 hC _ _
            go_wp2_with fail
            exact ⟨_, rfl, Grew.refl _ _, rfl⟩
          · intro w1 hC _ h0
            rw [h0]
            have q := (blk_cell (hC.heap HO5.out fun h => h.elim) 2).trans rfl
            go_wp2_with fail
            exact ⟨_, rfl, Grew.refl _ _, rfl⟩
          · intro w1 hC _ _
            have q0 := (blk_cell (hC.heap HA5.out fun h => h.elim) 0).trans rfl
            have q1 := (blk_cell (hC.heap HA5.out fun h => h.elim) 1).trans rfl
            have q2 := (blk_cell (hC.heap HA5.out fun h => h.elim) 2).trans rfl
            go_wp2_with fail
            exact ⟨_, rfl, Grew.refl _ _, rfl⟩
          · intro w1 hC _ _
            go_wp2_with fail
            exact ⟨_, rfl, Grew.refl _ _, rfl⟩
          · rintro w1 hC _ ⟨h2, h3⟩
            rw [h2, h3]
            have hok := okT_at HF.out HSZ.out HAA.out
            have hbb := HBW.out.trans ((HB5.out.mono HBW.out.size).trans (hC.all.mono (by have := HS5.out; have := HBW.out.size; omega)))
            have hic := ih a _ m w1 (by have := size_at (k := k) (n := n) HAA.out; have := HN.out; omega) hok.1 hok.2 (HTA.out.bel hbb) (hF.bel hbb) (HTab.out.bel hbb)
            have HCS := Lib.hid hC.size
            clear hbb hok
            go_wp2_with (go_at_call 40; refine hic.mono ?_; rintro e w2 ⟨v2, rfl, hT2, hb2⟩)
            exact ⟨_, rfl, Grew.of_below hb2, hT2.mono fun b hb _ => Nat.le_trans HCS.out hb⟩
          · rintro w1 hC _ h4
            obtain ⟨s4, e4, _, _, hs4⟩ := (show TR w1 _ (.mk (ord a).k (ord a).n (ord a).args) _ from (ord a).eta ▸ h4).inv
            obtain ⟨A4, cc4, rfl, _⟩ := hs4.form
            rw [e4] at h4 ⊢
            have HCS := Lib.hid hC.size
            have H4 := Lib.hid h4
            clear h4 hs4
            go_wp2_with fail
            exact ⟨_, rfl, Grew.alloc _ _ _, w1.heap.size, _, _, _, rfl, HCS.out, heap_alloc_new _ _, H4.out.bel (bself _ _)⟩
        · intro vals w1 hC hv
          have x0 : vals 0 = .pointer (some ⟨w.heap.size + 1 + 1, 2, none⟩) := hv 0 (by omega)
          have x1 : vals 1 = .slice al (ordL (args.take j)).length cl := hv 1 (by omega)
          have x2 : vals 2 = .agg #[.int .i64 a.k, .int .i64 a.n, .slice A2 a.args.length cc] := hv 2 (by omega)
          have x3 : vals 3 = .map (some m) := hv 3 (by omega)
          obtain ⟨g, e0, e1, e2, x5, hg5, hh5, hT5⟩ := hv 5 (by omega)
          simp only [List.take_succ_cons, List.take_zero, List.drop_succ_cons, List.drop_zero, lexA, Act.put, List.setIfInBounds_toArray, List.set_cons_zero, List.set_cons_succ, Nat.zero_add, Nat.reduceAdd, x0, x1, x2, x3, x5]
          clear x0 x1 x2 x3 x5 hv
          have HO1 := Lib.hid (hC.heap HO5.out fun h => h.elim)
          have HOW1 := Lib.hid (HOW5.out.bel hC.all)
          obtain ⟨cs, hcs, _⟩ := HOW1.out
          have HCS := Lib.hid hcs
          have HT5 := Lib.hid hT5
          have HH5 := Lib.hid hh5
          have HJ := Lib.hid (show (ordL (args.take j)).length = j by rw [ordL_map, List.length_map, List.length_take]; omega)
          have HSZ1 := Lib.hid (show w.heap.size + 1 + 1 + 1 ≤ w1.heap.size ∧ W5.heap.size ≤ w1.heap.size from ⟨by have := hC.size; have := HS5.out; omega, hC.size⟩)
          clear hcs hT5 hh5
          go_wp2_with (at_builtin; refine wpList_append_own_at _ rfl _ _ 22 rfl (w.heap.size + 1 + 1 + 1) 25 i0 _ 3 40 Tryd.underlying22 hi hz0 hz1 hz2 rfl (by decide) (.slice al (ordL (args.take j)).length cl) _ cs rfl HCS.out ⟨g, 0, none⟩ 1 1 [e0, e1, e2] rfl rfl (news3 HH5.out) (one3 HT5.out) ?_ ?_ ?_ ?_; rotate_right; intro v1 w2 hown2 hg2 _ hloc; have hO2 := hg2.block (w.heap.size + 1 + 1) (by have := HSZ1.out.1; omega) (fun e => by have := (HOW1.out.base _ e.symm).1; omega) ▸ HO1.out; have q0 := (blk_cell hO2 2).trans rfl; have q1 := blk_free hO2 2; obtain ⟨A9, c9, rfl, _, _⟩ := own_form hown2; have HO9 := Lib.hid hO2; clear hO2; have HL9 := Lib.hid hloc; clear hloc)
          · have hnew := HOW1.out.append HCS.out HT5.out (fun k hk => (HOW5.out.base k hk).2) (by have := HS5.out; omega) hown2 hg2 HL9.out
            have htk : ordL (args.take (j + 1)) = ordL (args.take j) ++ [ord a] := by
              rw [List.take_add_one, HAA.out, ordL_map, ordL_map]; simp
            go_roundw
            case rel =>
              refine ⟨j + 1, _, by go_num, by omega, blk_set HO9.out 2 _, ?_, ?_⟩
              · unfold Hid
                rw [htk]
                exact hnew.grew ((Grew.refl (fun b => b = w.heap.size + 1 + 1) w2).setCell rfl _) fun k hk => by omega
              · have hb0 := hb.out.size
                have hb5 := HB5.out.size
                unfold Hid
                refine Below.setCell (B := w.heap.size + 1 + 1) (p := ⟨w.heap.size + 1 + 1, 2, none⟩) ?_ (Nat.le_refl _) _
                refine Below.grown ?_ hg2 (by have := HSZ1.out.1; omega) (fun k hk => by have := (HOW1.out.base k hk).1; omega)
                exact hb.out.trans ((HB5.out.mono (by omega)).trans (hC.all.mono (by omega)))
            case measure => simp [intOf]; omega
          case refine_3.refine_1 => rw [HJ.out]; have := hj; unfold maxLen; omega
          case refine_3.refine_2 => rw [HJ.out]; omega
          case refine_3.refine_3 => exact HSZ1.out.1
      · obtain rfl : j = args.length := by omega
        rw [List.take_length] at hown
        have hHB := Lib.hid (HB2.out.trans (hb.out.mono (by omega)))
        have HA9 := Lib.hid ((hb.out.block w.heap.size (by omega)).trans HA2.out)
        have HC9 := Lib.hid ((hb.out.block (w.heap.size + 1) (by omega)).trans HC2.out)
        have HS9 := Lib.hid (show w.heap.size + 1 + 1 + 1 ≤ wr.heap.size by have := hb.out.size; have := HS2.out; omega)
        by_cases hk8 : k = 8
        · have hl2 : args.length = 2 := by have := (headOK_iff.1 (form_head HF.out).1).2.1; rw [this, hk8]; rfl
          obtain ⟨p, q, rfl⟩ : ∃ p q, args = [p, q] := by
            match args, hl2 with
            | [p, q], _ => exact ⟨p, q, rfl⟩
          have hk8' : (k == 8) = true := by simpa using hk8
          clear hk8 hl2
          have hown' : OTS wr (w.heap.size + 1 + 1 + 1) [ord p, ord q] l := hown.out
          have hpq : form (ord p) = true ∧ size (ord p) ≤ 2000 := by rw [form_ord, size_ord]; exact okT_at HF.out HSZ.out (j := 0) rfl
          have hqq : form (ord q) = true ∧ size (ord q) ≤ 2000 := by rw [form_ord, size_ord]; exact okT_at HF.out HSZ.out (j := 1) rfl
          have HE : Hid (ord (.mk k n [p, q]) = .mk k n (turn k [ord p, ord q])) := rfl
          generalize ord p = pp at hown' hpq HE
          generalize ord q = qq at hown' hqq HE
          obtain ⟨al, cl, rfl, hcl1, hcl2⟩ := hown'.form
          obtain ⟨g, o, A0, m0, rfl, _, hgs, g0, g1, g2, hT0⟩ := hown'.ts.at_ (j := 0) rfl
          obtain ⟨g', o', A1, m1, eg, _, _, g3, g4, g5, hT1⟩ := hown'.ts.at_ (j := 1) rfl
          cases eg
          have HT0 := Lib.hid hT0
          have HT1 := Lib.hid hT1
          have HPQ := Lib.hid hpq
          have HQQ := Lib.hid hqq
          have HOW := Lib.hid hown'
          have HO0 := Lib.hid hO.out
          clear hT0 hT1 hpq hqq hown' hown hO
          have q0 : ∀ x : Later wr.heap.size wr, x.w.cell? ⟨w.heap.size, 0, none⟩ = some (.int .i64 k) := fun x => x.cell ((blk_cell HA9.out 0).trans rfl) (by have := HS9.out; simp; omega)
          have q1 : ∀ x : Later wr.heap.size wr, x.w.cell? ⟨w.heap.size + 1 + 1, 2, none⟩ = some (.slice (some ⟨g, o, none⟩) 2 cl) := fun x => x.cell ((blk_cell HO0.out 2).trans rfl) (by have := HS9.out; simp; omega)
          have r0 : ∀ x : Later wr.heap.size wr, x.w.cell? ⟨g, o, none⟩ = some (.int .i64 pp.k) := fun x => x.cell (by simpa using g0) (by simpa using hgs)
          have r1 : ∀ x : Later wr.heap.size wr, x.w.cell? ⟨g, o + 1, none⟩ = some (.int .i64 pp.n) := fun x => x.cell (by simpa using g1) (by simpa using hgs)
          have r2 : ∀ x : Later wr.heap.size wr, x.w.cell? ⟨g, o + 2, none⟩ = some (.slice A0 pp.args.length m0) := fun x => x.cell (by simpa using g2) (by simpa using hgs)
          have r3 : ∀ x : Later wr.heap.size wr, x.w.cell? ⟨g, o + 3, none⟩ = some (.int .i64 qq.k) := fun x => x.cell (by simpa using g3) (by simpa using hgs)
          have r4 : ∀ x : Later wr.heap.size wr, x.w.cell? ⟨g, o + 3 + 1, none⟩ = some (.int .i64 qq.n) := fun x => x.cell (by simpa using g4) (by simpa using hgs)
          have r5 : ∀ x : Later wr.heap.size wr, x.w.cell? ⟨g, o + 3 + 2, none⟩ = some (.slice A1 qq.args.length m1) := fun x => x.cell (by simpa using g5) (by simpa using hgs)
          have hc0 : Hid (∀ x : Later wr.heap.size wr, Calls Tryd.prog 50 #[.agg #[.int .i64 pp.k, .int .i64 pp.n, .slice A0 pp.args.length m0], .map (some m)] x.w fun e w' => e = .returned (.string ⟨(txt pp).toArray⟩) ∧ Below x.w.heap.size x.w w') := fun x =>
            text_any _ pp _ m x.w (Nat.le_refl _) HPQ.out.1 HPQ.out.2 (HT0.out.any.later (Below.refl _ _) (Nat.le_refl _) x) (hF.later hHB.out hHB.out.size x) (HTab.out.later hHB.out hHB.out.size x)
          have hc1 : Hid (∀ x : Later wr.heap.size wr, Calls Tryd.prog 50 #[.agg #[.int .i64 qq.k, .int .i64 qq.n, .slice A1 qq.args.length m1], .map (some m)] x.w fun e w' => e = .returned (.string ⟨(txt qq).toArray⟩) ∧ Below x.w.heap.size x.w w') := fun x =>
            text_any _ qq _ m x.w (Nat.le_refl _) HQQ.out.1 HQQ.out.2 (HT1.out.any.later (Below.refl _ _) (Nat.le_refl _) x) (hF.later hHB.out hHB.out.size x) (HTab.out.later hHB.out hHB.out.size x)
          have t0 := bs_toList (txt pp)
          have t1 := bs_toList (txt qq)
          clear g0 g1 g2 g3 g4 g5
          cases hgt : bGt (txt pp) (txt qq) with
          | true =>
            have hgt' : (!Op.bytesLess (txt pp) (txt qq) && !(txt pp == txt qq)) = true := by rw [← bLess_eq]; exact hgt
            have HGT := Lib.hid hgt
            clear hgt
            go_wp2_with fail
            refine wp_region_later wr.heap.size (by kernel_rfl) ?_
            repeat (first | go_big_quiet_step ((go_at_call 50; first | (with_reducible exact later_call (hc0.out _) (Nat.le_refl _)) | (with_reducible exact later_call (hc1.out _) (Nat.le_refl _)))) | quiet_step ((go_at_call 50; first | (with_reducible exact later_call (hc0.out _) (Nat.le_refl _)) | (with_reducible exact later_call (hc1.out _) (Nat.le_refl _)))))
            refine wpQuiet_nil (later_all ?_)
            intro wx hx
            have HWX := Lib.hid hx.size
            have HO1 := Lib.hid ((hx.block _ (by have := HS9.out; omega)).trans HO0.out)
            have HC1 := Lib.hid ((hx.block _ (by have := HS9.out; omega)).trans HC9.out)
            have HOX := Lib.hid (HOW.out.bel hx)
            have HX := Lib.hid (hHB.out.trans (hx.mono hHB.out.size))
            clear hx
            have q1 := (blk_cell HO1.out 0).trans rfl
            have q2 := (blk_cell HO1.out 1).trans rfl
            have q3 := (blk_cell HO1.out 2).trans rfl
            go_wp2_with (go_at_call 64; refine (reverse_any HOX.out).mono ?_; rintro e w2 ⟨rfl, ho2, hg2⟩; have HG2 := Lib.hid hg2; have HO2' := Lib.hid ho2; clear ho2 hg2; have HO3 := Lib.hid (HG2.out.heap HO1.out (fun e => by have := (HOX.out.base _ e).1; omega)); have HC3 := Lib.hid (HG2.out.heap HC1.out (fun e => by have := (HOX.out.base _ e).1; omega)); have y1 := (blk_cell HO3.out 0).trans rfl; have y2 := (blk_cell HO3.out 1).trans rfl; have y3 := (blk_cell HO3.out 2).trans rfl; have z0 := (blk_cell HC3.out 0).trans rfl; have z1 := (blk_cell HC3.out 1).trans rfl; have z2 := (blk_cell HC3.out 2).trans rfl; have s0 := blk_free HC3.out 0; have s1 := blk_free HC3.out 1; have s2 := blk_free HC3.out 2)
            refine bodyPost_ret (v := .agg #[.int .i64 k, .int .i64 n, .slice (some ⟨g, o, none⟩) 2 cl]) (by simp [results, Tryd.results40, go_sem, z0, z1, z2]) rfl ⟨_, rfl, ?_, ?_⟩
            · have hg : Grew (fun b => b = w.heap.size + 1) w2 _ := ((((Grew.refl (fun b => b = w.heap.size + 1) w2).setCell (j := 0) rfl (.int .i64 k)).setCell (j := 1) rfl (.int .i64 n)).setCell (j := 2) rfl (.slice (some ⟨g, o, none⟩) 2 cl))
              rw [HE.out, turn_gt hk8' HGT.out]
              exact TR.of hk hn ((HO2'.out.grew hg fun b hb => by omega).ts.mono fun b hb _ => by omega)
            · exact (((HX.out.trans (HG2.out.below (HX.out.size) (fun b e => by have := (HOX.out.base _ e).1; omega))).setCell (p := ⟨w.heap.size + 1, 0, none⟩) (Nat.le_succ _) _).setCell (p := ⟨w.heap.size + 1, 1, none⟩) (Nat.le_succ _) _).setCell (p := ⟨w.heap.size + 1, 2, none⟩) (Nat.le_succ _) _
          | false =>
            have hgt' : (!Op.bytesLess (txt pp) (txt qq) && !(txt pp == txt qq)) = false := by rw [← bLess_eq]; exact hgt
            have HGT := Lib.hid hgt
            clear hgt
            go_wp2_with fail
            refine wp_region_later wr.heap.size (by kernel_rfl) ?_
            repeat (first | go_big_quiet_step ((go_at_call 50; first | (with_reducible exact later_call (hc0.out _) (Nat.le_refl _)) | (with_reducible exact later_call (hc1.out _) (Nat.le_refl _)))) | quiet_step ((go_at_call 50; first | (with_reducible exact later_call (hc0.out _) (Nat.le_refl _)) | (with_reducible exact later_call (hc1.out _) (Nat.le_refl _)))))
            refine wpQuiet_nil (later_all ?_)
            intro wx hx
            have HWX := Lib.hid hx.size
            have HO1 := Lib.hid ((hx.block _ (by have := HS9.out; omega)).trans HO0.out)
            have HC1 := Lib.hid ((hx.block _ (by have := HS9.out; omega)).trans HC9.out)
            have HOX := Lib.hid (HOW.out.bel hx)
            have HX := Lib.hid (hHB.out.trans (hx.mono hHB.out.size))
            clear hx
            have q1 := (blk_cell HO1.out 0).trans rfl
            have q2 := (blk_cell HO1.out 1).trans rfl
            have q3 := (blk_cell HO1.out 2).trans rfl
            have z0 := (blk_cell HC1.out 0).trans rfl
            have z1 := (blk_cell HC1.out 1).trans rfl
            have z2 := (blk_cell HC1.out 2).trans rfl
            have s0 := blk_free HC1.out 0
            have s1 := blk_free HC1.out 1
            have s2 := blk_free HC1.out 2
            go_wp2_with fail
            refine bodyPost_ret (v := .agg #[.int .i64 k, .int .i64 n, .slice (some ⟨g, o, none⟩) 2 cl]) (by simp [results, Tryd.results40, go_sem, z0, z1, z2]) rfl ⟨_, rfl, ?_, ?_⟩
            · have hg : Grew (fun b => b = w.heap.size + 1) wx _ := ((((Grew.refl (fun b => b = w.heap.size + 1) wx).setCell (j := 0) rfl (.int .i64 k)).setCell (j := 1) rfl (.int .i64 n)).setCell (j := 2) rfl (.slice (some ⟨g, o, none⟩) 2 cl))
              rw [HE.out, turn_le HGT.out]
              exact TR.of hk hn ((HOX.out.grew hg fun b hb => by omega).ts.mono fun b hb _ => by omega)
            · exact ((HX.out.setCell (p := ⟨w.heap.size + 1, 0, none⟩) (Nat.le_succ _) _).setCell (p := ⟨w.heap.size + 1, 1, none⟩) (Nat.le_succ _) _).setCell (p := ⟨w.heap.size + 1, 2, none⟩) (Nat.le_succ _) _
        · have hk8' : (k == 8) = false := by simpa using hk8
          clear hk8
          obtain ⟨al, cl, rfl, hcl1, hcl2⟩ := hown.out.form
          have q0 : ∀ x : Later wr.heap.size wr, x.w.cell? ⟨w.heap.size, 0, none⟩ = some (.int .i64 k) := fun x => x.cell ((blk_cell HA9.out 0).trans rfl) (by have := HS9.out; simp; omega)
          go_wp2_with fail
          refine wp_region_later wr.heap.size (by kernel_rfl) ?_
          repeat (first | go_big_quiet_step (fail) | quiet_step (fail))
          refine wpQuiet_nil (later_all ?_)
          intro wx hx
          have hwx := hx.size
          have hO1 := (hx.block _ (by have := HS9.out; omega)).trans hO.out
          have hC1 := (hx.block _ (by have := HS9.out; omega)).trans HC9.out
          have q1 := (blk_cell hO1 0).trans rfl
          have q2 := (blk_cell hO1 1).trans rfl
          have q3 := (blk_cell hO1 2).trans rfl
          have r0 := (blk_cell hC1 0).trans rfl
          have r1 := (blk_cell hC1 1).trans rfl
          have r2 := (blk_cell hC1 2).trans rfl
          have s0 := blk_free hC1 0
          have s1 := blk_free hC1 1
          have s2 := blk_free hC1 2
          have HO1 := Lib.hid hO1
          have HC1 := Lib.hid hC1
          have HX := Lib.hid hx
          clear hC1 hO1 hx
          go_wp2_with fail
          refine bodyPost_ret (v := .agg #[.int .i64 k, .int .i64 n, .slice al (ordL args).length cl]) (by simp [results, Tryd.results40, go_sem, r0, r1, r2]) rfl ⟨_, rfl, ?_, ?_⟩
          · have ho : OTS wx (w.heap.size + 1 + 1 + 1) (ordL args) (.slice al (ordL args).length cl) := hown.out.bel HX.out
            have hg : Grew (fun b => b = w.heap.size + 1) wx _ := ((((Grew.refl (fun b => b = w.heap.size + 1) wx).setCell (j := 0) rfl (.int .i64 k)).setCell (j := 1) rfl (.int .i64 n)).setCell (j := 2) rfl (.slice al (ordL args).length cl))
            rw [ord, turn_ne (by simpa using hk8')]
            exact TR.of hk hn ((ho.grew hg fun b hb => by omega).ts.mono fun b hb _ => by omega)
          · have hb9 := hHB.out.trans (HX.out.mono hHB.out.size)
            exact ((hb9.setCell (p := ⟨w.heap.size + 1, 0, none⟩) (Nat.le_succ _) _).setCell (p := ⟨w.heap.size + 1, 1, none⟩) (Nat.le_succ _) _).setCell (p := ⟨w.heap.size + 1, 2, none⟩) (Nat.le_succ _) _
end Go.Proofs.YtfhpnkmhppfeiaaDoor
/- terms.May, Text, Order, name, Same. -/
set_option linter.unusedVariables false
set_option linter.unusedSimpArgs false
namespace Go.Proofs.YtfhpnkmhppfeiaaDoor
open Go.RowKit Go.Proofs
/-- A term's value is written out. -/
theorem TR.form3 {w : World} {D : Nat → Prop} {t : Tm} {v : Value} (h : TR w D t v) : ∃ A c, v = .agg #[.int .i64 t.k, .int .i64 t.n, .slice A t.args.length c] := by
  obtain ⟨k, n, args⟩ := t
  obtain ⟨s, rfl, _, _, hs⟩ := h.inv
  obtain ⟨A, c, rfl, _⟩ := hs.form
  exact ⟨A, c, rfl⟩

set_option maxRecDepth 100000 in
set_option maxHeartbeats 1000000 in
theorem may_any (t : Tm) (v : Value) (w : World) (hT : TR w Any t v) : Calls Tryd.prog 30 #[v] w fun e w' => e = .returned (.bool (may t)) ∧ Below w.heap.size w w' := by
    obtain ⟨A, c, rfl⟩ := hT.form3
    have HT := Lib.hid hT
    clear hT
    have hmay := may_fits t
    have HM := Lib.hid hmay
    clear hmay
    go_enter Tryd.func30, Tryd.ntmps30
    go_wp2_with fail
    obtain ⟨W1, hW1⟩ : ∃ W1 : World, W1 = w.alloc (.cells #[.int .i64 t.k, .int .i64 t.n, .slice A t.args.length c] 25) := ⟨_, rfl⟩
    rw [← hW1]
    have HB1 := Lib.hid (show Below w.heap.size w W1 by rw [hW1]; exact bself w _)
    have HA1 := Lib.hid (show W1.heap[w.heap.size]? = some (.cells #[.int .i64 t.k, .int .i64 t.n, .slice A t.args.length c] 25 (0, 0)) by rw [hW1]; exact heap_alloc_new w _)
    clear hW1
    refine wp_region_post 8 (R := fun _ => Grew None_) (B := fun _ _ => True) (C := Grew (None_) W1)
      [fun v _ => v = .agg #[.int .i64 t.k, .int .i64 t.n, .slice A t.args.length c],
        fun v w' => ∃ m, v = .map (some m) ∧ FormsAt w' m,
        fun v _ => v = .tuple #[.bool (fits t 2000).1, .int .i64 (fits t 2000).2],
        fun v _ => v = .tuple #[.bool (fits t 2000).1, .int .i64 (fits t 2000).2],
        fun v _ => v = .bool (fits t 2000).1,
        fun v _ => v = .int .i64 (fits t 2000).2,
        fun v _ => v = .bool (fits t 2000).1,
        fun v _ => v = .int .i64 (fits t 2000).2]
      [[], [], [0, 1], [2], [3], [3], [4], [5]] (by kernel_rfl) (by kernel_rfl) (by kernel_rfl) (fun _ _ _ _ h h' => h.trans h') ?_ (fun _ _ _ _ _ _ _ _ _ _ _ => trivial) (Grew.drew _ _) (fun _ _ => trivial) ?_ ?_
    · intro i j v w1 w2 _ _ _ hg
      refine lasts ?_ j v
      simp only [List.forall_mem_cons, List.not_mem_nil, false_implies, implies_true, and_true]
      refine ⟨fun _ h => h, fun _ ⟨m, e, h⟩ => ⟨m, e, h.bel hg.all⟩, fun _ h => h, fun _ h => h, fun _ h => h, fun _ h => h, fun _ h => h, fun _ h => h⟩
    · intro vals
      simp only [List.take_succ_cons, List.take_zero, Steps_, List.headD_cons, List.tail_cons, List.forall_mem_cons, List.not_mem_nil, false_implies, implies_true, and_true, List.getD_cons_zero, List.getD_cons_succ, Act.put, List.setIfInBounds_toArray, List.set_cons_zero, List.set_cons_succ, Nat.zero_add, Nat.reduceAdd]
      refine ⟨?_, ?_, ?_, ?_, ?_, ?_, ?_, ?_⟩
      · rintro w1 hC _ _
        have q0 := (blk_cell (hC.heap HA1.out fun h => h.elim) 0).trans rfl
        have q1 := (blk_cell (hC.heap HA1.out fun h => h.elim) 1).trans rfl
        have q2 := (blk_cell (hC.heap HA1.out fun h => h.elim) 2).trans rfl
        go_wp2_with fail
        exact ⟨_, rfl, Grew.refl _ _, rfl⟩
      · rintro w1 hC _ _
        go_wp2_with (go_at_call 41; refine (forms_any _).mono ?_; rintro e w2 ⟨rfl, hF, hb⟩)
        exact ⟨_, rfl, Grew.of_below hb, _, rfl, hF⟩
      · rintro w1 hC _ ⟨h0, h1⟩
        rw [h0]
        obtain ⟨m, e1, hF⟩ := h1
        rw [e1]
        have hbb := HB1.out.trans (hC.all.mono HB1.out.size)
        have hic := fits_any _ t _ m 2000 w1 (Nat.le_refl _) (HT.out.bel hbb) hF (by omega) (by omega)
        clear hbb e1
        go_wp2_with (go_at_call 49; refine hic.mono ?_; rintro e w2 ⟨rfl, hb⟩)
        exact ⟨_, rfl, Grew.of_below hb, rfl⟩
      · rintro w1 hC _ h2
        rw [h2]
        go_wp2_with fail
        exact ⟨_, rfl, Grew.refl _ _, rfl⟩
      · rintro w1 hC _ h3
        rw [h3]
        go_wp2_with fail
        exact ⟨_, rfl, Grew.refl _ _, rfl⟩
      · rintro w1 hC _ h3
        rw [h3]
        go_wp2_with fail
        exact ⟨_, rfl, Grew.refl _ _, rfl⟩
      · rintro w1 hC _ h4
        rw [h4]
        go_wp2_with fail
        exact ⟨_, rfl, Grew.refl _ _, rfl⟩
      · rintro w1 hC _ h5
        rw [h5]
        go_wp2_with fail
        exact ⟨_, rfl, Grew.refl _ _, rfl⟩
    · intro vals w1 hC hv
      have x0 : vals 0 = .agg #[.int .i64 t.k, .int .i64 t.n, .slice A t.args.length c] := hv 0 (by omega)
      obtain ⟨m, xm, hF⟩ := hv 1 (by omega)
      have x2 : vals 2 = .tuple #[.bool (fits t 2000).1, .int .i64 (fits t 2000).2] := hv 2 (by omega)
      have x3 : vals 3 = .tuple #[.bool (fits t 2000).1, .int .i64 (fits t 2000).2] := hv 3 (by omega)
      have x4 : vals 4 = .bool (fits t 2000).1 := hv 4 (by omega)
      have x5 : vals 5 = .int .i64 (fits t 2000).2 := hv 5 (by omega)
      have x6 : vals 6 = .bool (fits t 2000).1 := hv 6 (by omega)
      have x7 : vals 7 = .int .i64 (fits t 2000).2 := hv 7 (by omega)
      simp only [List.take_succ_cons, List.take_zero, List.drop_succ_cons, List.drop_zero, List.drop_nil, lexA, Act.put, List.setIfInBounds_toArray, List.set_cons_zero, List.set_cons_succ, Nat.zero_add, Nat.reduceAdd, x0, xm, x2, x3, x4, x5, x6, x7]
      clear x0 xm x2 x3 x4 x5 x6 x7 hv
      have hbb := HB1.out.trans (hC.all.mono HB1.out.size)
      go_wp2_with fail
      go_ret
      exact ⟨ret_b HM.out, hbb⟩

set_option maxRecDepth 100000 in
set_option maxHeartbeats 1000000 in
theorem Text_any (t : Tm) (v : Value) (w : World) (hT : TR w Any t v) (hTab : Tab w) :
    Calls Tryd.prog 31 #[v] w fun e w' => e = .returned (.tuple #[.string ⟨(if may t = true then txt t else []).toArray⟩, .int .i64 (if may t = true then 0 else 2)]) ∧ Below w.heap.size w w' := by
    obtain ⟨A, c, rfl⟩ := hT.form3
    have HT := Lib.hid hT
    have HTab := Lib.hid hTab
    have hmay := may_any t _ (w.alloc (.cells #[.int .i64 t.k, .int .i64 t.n, .slice A t.args.length c] 25)) (hT.bel (bself w _))
    clear hT hTab
    cases hm : may t with
    | false =>
      have HM := Lib.hid hm
      rw [hm] at hmay
      clear hm
      go_enter Tryd.func31, Tryd.ntmps31
      go_wp2_with (go_at_call 30; refine hmay.mono ?_; rintro e w2 ⟨rfl, hb⟩)
      go_ret2
      exact ⟨rfl, bthen (bself w _) hb⟩
    | true =>
      have HM := Lib.hid hm
      rw [hm] at hmay
      clear hm
      go_enter Tryd.func31, Tryd.ntmps31
      go_wp2_with (go_at_call 30; refine hmay.mono ?_; rintro e W1 ⟨rfl, hb⟩; have HB1 := Lib.hid (bthen (bself w _) hb); have HA1 := Lib.hid ((hb.block w.heap.size (by simp)).trans (heap_alloc_new w _)); clear hb)
      refine wp_region_post 2 (R := fun _ => Grew None_) (B := fun _ _ => True) (C := Grew (None_) W1)
        [fun v _ => v = .agg #[.int .i64 t.k, .int .i64 t.n, .slice A t.args.length c],
          fun v w' => ∃ m, v = .map (some m) ∧ FormsAt w' m]
        [[], []] (by kernel_rfl) (by kernel_rfl) (by kernel_rfl) (fun _ _ _ _ h h' => h.trans h') ?_ (fun _ _ _ _ _ _ _ _ _ _ _ => trivial) (Grew.drew _ _) (fun _ _ => trivial) ?_ ?_
      · intro i j v w1 w2 _ _ _ hg
        refine lasts ?_ j v
        simp only [List.forall_mem_cons, List.not_mem_nil, false_implies, implies_true, and_true]
        refine ⟨fun _ h => h, fun _ ⟨m, e, h⟩ => ⟨m, e, h.bel hg.all⟩⟩
      · intro vals
        simp only [List.take_succ_cons, List.take_zero, Steps_, List.headD_cons, List.tail_cons, List.forall_mem_cons, List.not_mem_nil, false_implies, implies_true, and_true, List.getD_cons_zero, List.getD_cons_succ, Act.put, List.setIfInBounds_toArray, List.set_cons_zero, List.set_cons_succ, Nat.zero_add, Nat.reduceAdd]
        refine ⟨?_, ?_⟩
        · rintro w1 hC _ _
          have q0 := (blk_cell (hC.heap HA1.out fun h => h.elim) 0).trans rfl
          have q1 := (blk_cell (hC.heap HA1.out fun h => h.elim) 1).trans rfl
          have q2 := (blk_cell (hC.heap HA1.out fun h => h.elim) 2).trans rfl
          go_wp2_with fail
          exact ⟨_, rfl, Grew.refl _ _, rfl⟩
        · rintro w1 hC _ _
          go_wp2_with (go_at_call 41; refine (forms_any _).mono ?_; rintro e w2 ⟨rfl, hF, hb⟩)
          exact ⟨_, rfl, Grew.of_below hb, _, rfl, hF⟩
      · intro vals w1 hC hv
        have x0 : vals 0 = .agg #[.int .i64 t.k, .int .i64 t.n, .slice A t.args.length c] := hv 0 (by omega)
        obtain ⟨m, xm, hF⟩ := hv 1 (by omega)
        simp only [List.take_succ_cons, List.take_zero, List.drop_succ_cons, List.drop_zero, List.drop_nil, lexA, Act.put, List.setIfInBounds_toArray, List.set_cons_zero, List.set_cons_succ, Nat.zero_add, Nat.reduceAdd, x0, xm]
        clear x0 xm hv
        have hbb := HB1.out.trans (hC.all.mono HB1.out.size)
        have hm := (may_iff t).1 HM.out
        have hic := text_any _ t _ m w1 (Nat.le_refl _) hm.1 hm.2 (HT.out.bel hbb) hF (HTab.out.bel hbb)
        have HBB := Lib.hid hbb
        clear hbb hm
        go_wp2_with (go_at_call 50; refine hic.mono ?_; rintro e w2 ⟨rfl, hb⟩)
        go_ret2
        exact ⟨rfl, bthen HBB.out hb⟩
end Go.Proofs.YtfhpnkmhppfeiaaDoor
/- terms.Order, name, Same. -/
set_option linter.unusedVariables false
set_option linter.unusedSimpArgs false
namespace Go.Proofs.YtfhpnkmhppfeiaaDoor
open Go.RowKit Go.Proofs
theorem cell3_load {w : World} {g : Nat} {c0 c1 c2 : Value} (h : w.heap[g]? = some (.cells #[c0, c1, c2] 25 (0, 0))) : w.cell? ⟨g, 0, none⟩ = some c0 ∧ w.cell? ⟨g, 1, none⟩ = some c1 ∧ w.cell? ⟨g, 2, none⟩ = some c2 ∧
    w.frozen? ⟨g, 0, none⟩ = false ∧ w.frozen? ⟨g, 1, none⟩ = false ∧ w.frozen? ⟨g, 2, none⟩ = false :=
  ⟨(blk_cell h 0).trans rfl, (blk_cell h 1).trans rfl, (blk_cell h 2).trans rfl, blk_free h 0, blk_free h 1, blk_free h 2⟩
theorem heap2 (w : World) (o1 o2 : Obj) : ((w.alloc o1).alloc o2).heap[w.heap.size]? = some o1 ∧ ((w.alloc o1).alloc o2).heap[w.heap.size + 1]? = some o2 := by
  refine ⟨(Below.heap_alloc _ _ _ (by simp)).trans (heap_alloc_new w _), ?_⟩
  have := heap_alloc_new (w.alloc o1) o2
  rw [World.size_alloc] at this
  exact this
/-- A struct that is stored into a variable of three cells. -/
theorem grew3 (w : World) (g : Nat) (c0 c1 c2 : Value) : Grew (fun b => b = g) w (((w.setCell ⟨g, 0, none⟩ c0).setCell ⟨g, 1, none⟩ c1).setCell ⟨g, 2, none⟩ c2) :=
  (((Grew.refl (fun b => b = g) w).setCell (j := 0) rfl c0).setCell (j := 1) rfl c1).setCell (j := 2) rfl c2
theorem TR.old {w W : World} {t : Tm} {v : Value} (h : TR w Any t v) (hb : Below w.heap.size w W) : TR W (fun b => b < w.heap.size) t v := (h.mono (D' := fun b => b < w.heap.size) fun _ _ hlt => hlt).bel hb
theorem TS.old {w W : World} {t : List Tm} {v : Value} (h : TS w Any t v) (hb : Below w.heap.size w W) : TS W (fun b => b < w.heap.size) t v := (h.mono (D' := fun b => b < w.heap.size) fun _ _ hlt => hlt).bel hb

set_option maxRecDepth 100000 in
set_option maxHeartbeats 1000000 in
theorem Order_any (t : Tm) (v : Value) (w : World) (hT : TR w Any t v) (hTab : Tab w) :
    Calls Tryd.prog 35 #[v] w fun e w' => ∃ v', e = .returned v' ∧ TR w' Any (if may t = true then ord t else t) v' ∧ Below w.heap.size w w' := by
    obtain ⟨A, c, rfl⟩ := hT.form3
    have HT := Lib.hid hT
    have HTab := Lib.hid hTab
    have hmay := may_any t _ ((w.alloc (.cells #[.int .i64 t.k, .int .i64 t.n, .slice A t.args.length c] 25)).alloc (.cells #[.int .i64 0, .int .i64 0, .slice none 0 0] 25)) (hT.bel (balloc (bself w _) _))
    clear hT hTab
    cases hm : may t with
    | false =>
      have HM := Lib.hid hm
      rw [hm] at hmay
      clear hm
      go_enter Tryd.func35, Tryd.ntmps35
      go_wp2_with (go_at_call 30; refine hmay.mono ?_; rintro e W1 ⟨rfl, hb⟩; have HB1 := Lib.hid (bthen (balloc (bself w _) _) hb); have HH := heap2 w (.cells #[.int .i64 t.k, .int .i64 t.n, .slice A t.args.length c] 25) (.cells #[.int .i64 0, .int .i64 0, .slice none 0 0] 25); have hA := (hb.block w.heap.size (by simp; omega)).trans HH.1; have hC := (hb.block (w.heap.size + 1) (by simp)).trans HH.2; obtain ⟨q0, q1, q2, _, _, _⟩ := cell3_load hA; obtain ⟨r0, r1, r2, r3, r4, r5⟩ := cell3_load hC; have HC := Lib.hid hC; have HA1 := Lib.hid hA; clear hb hA hC HH)
      refine bodyPost_ret (v := .agg #[.int .i64 t.k, .int .i64 t.n, .slice A t.args.length c]) (by simp [results, Tryd.results35, go_sem, r0, r1, r2]) rfl ⟨_, rfl, ?_, ?_⟩
      · exact ((HT.out.old HB1.out).grew (grew3 _ _ _ _ _) fun k hk e => by omega).any
      · exact HB1.out.trans ((grew3 _ _ _ _ _).below HB1.out.size fun k e => by omega)
    | true =>
      have HM := Lib.hid hm
      rw [hm] at hmay
      clear hm
      go_enter Tryd.func35, Tryd.ntmps35
      go_wp2_with (go_at_call 30; refine hmay.mono ?_; rintro e W1 ⟨rfl, hb⟩; have HB1 := Lib.hid (bthen (balloc (bself w _) _) hb); have HH := heap2 w (.cells #[.int .i64 t.k, .int .i64 t.n, .slice A t.args.length c] 25) (.cells #[.int .i64 0, .int .i64 0, .slice none 0 0] 25); have hA := (hb.block w.heap.size (by simp; omega)).trans HH.1; have hC := (hb.block (w.heap.size + 1) (by simp)).trans HH.2; obtain ⟨q0, q1, q2, _, _, _⟩ := cell3_load hA; obtain ⟨r0, r1, r2, r3, r4, r5⟩ := cell3_load hC; have HC := Lib.hid hC; have HA1 := Lib.hid hA; clear hb hA hC HH)
      refine wp_region_post 2 (R := fun _ => Grew None_) (B := fun _ _ => True) (C := Grew (None_) W1)
        [fun v _ => v = .agg #[.int .i64 t.k, .int .i64 t.n, .slice A t.args.length c],
          fun v w' => ∃ m, v = .map (some m) ∧ FormsAt w' m]
        [[], []] (by kernel_rfl) (by kernel_rfl) (by kernel_rfl) (fun _ _ _ _ h h' => h.trans h') ?_ (fun _ _ _ _ _ _ _ _ _ _ _ => trivial) (Grew.drew _ _) (fun _ _ => trivial) ?_ ?_
      · intro i j v w1 w2 _ _ _ hg
        refine lasts ?_ j v
        simp only [List.forall_mem_cons, List.not_mem_nil, false_implies, implies_true, and_true]
        refine ⟨fun _ h => h, fun _ ⟨m, e, h⟩ => ⟨m, e, h.bel hg.all⟩⟩
      · intro vals
        simp only [List.take_succ_cons, List.take_zero, Steps_, List.headD_cons, List.tail_cons, List.forall_mem_cons, List.not_mem_nil, false_implies, implies_true, and_true, List.getD_cons_zero, List.getD_cons_succ, Act.put, List.setIfInBounds_toArray, List.set_cons_zero, List.set_cons_succ, Nat.zero_add, Nat.reduceAdd]
        refine ⟨?_, ?_⟩
        · rintro w1 hC _ _
          have q0 := (blk_cell (hC.heap HA1.out fun h => h.elim) 0).trans rfl
          have q1 := (blk_cell (hC.heap HA1.out fun h => h.elim) 1).trans rfl
          have q2 := (blk_cell (hC.heap HA1.out fun h => h.elim) 2).trans rfl
          go_wp2_with fail
          exact ⟨_, rfl, Grew.refl _ _, rfl⟩
        · rintro w1 hC _ _
          go_wp2_with (go_at_call 41; refine (forms_any _).mono ?_; rintro e w2 ⟨rfl, hF, hb⟩)
          exact ⟨_, rfl, Grew.of_below hb, _, rfl, hF⟩
      · intro vals w1 hC hv
        have x0 : vals 0 = .agg #[.int .i64 t.k, .int .i64 t.n, .slice A t.args.length c] := hv 0 (by omega)
        obtain ⟨m, xm, hF⟩ := hv 1 (by omega)
        simp only [List.take_succ_cons, List.take_zero, List.drop_succ_cons, List.drop_zero, List.drop_nil, lexA, Act.put, List.setIfInBounds_toArray, List.set_cons_zero, List.set_cons_succ, Nat.zero_add, Nat.reduceAdd, x0, xm]
        clear x0 xm hv
        have hbb := HB1.out.trans (hC.all.mono HB1.out.size)
        have hm := (may_iff t).1 HM.out
        have hic := order_any _ t _ m w1 (Nat.le_refl _) hm.1 hm.2 (HT.out.bel hbb) hF (HTab.out.bel hbb)
        have HBB := Lib.hid hbb
        have HC1 := Lib.hid (hC.heap HC.out fun h => h.elim)
        clear hbb hm r0 r1 r2 r3 r4 r5 q0 q1 q2
        go_wp2_with (go_at_call 40; refine hic.mono ?_; rintro e w2 ⟨v2, rfl, hT2, hb⟩; obtain ⟨A2, c2, rfl⟩ := hT2.form3; have HT2 := Lib.hid hT2; have HB2 := Lib.hid hb; have hC2 := (hb.block (w.heap.size + 1) (Array.getElem?_eq_some_iff.1 HC1.out).1).trans HC1.out; obtain ⟨r0, r1, r2, r3, r4, r5⟩ := cell3_load hC2; have HC2 := Lib.hid hC2; clear hT2 hb hC2)
        refine bodyPost_ret (v := .agg #[.int .i64 (ord t).k, .int .i64 (ord t).n, .slice A2 (ord t).args.length c2]) (by simp [results, Tryd.results35, go_sem, r0, r1, r2]) rfl ⟨_, rfl, ?_, ?_⟩
        · exact (HT2.out.grew (grew3 _ _ _ _ _) fun k hk e => by have := (Array.getElem?_eq_some_iff.1 HC1.out).1; omega).any
        · exact (bthen HBB.out HB2.out).trans ((grew3 _ _ _ _ _).below (bthen HBB.out HB2.out).size fun k e => by omega)
end Go.Proofs.YtfhpnkmhppfeiaaDoor
/- name, Same. -/
set_option linter.unusedVariables false
set_option linter.unusedSimpArgs false
namespace Go.Proofs.YtfhpnkmhppfeiaaDoor
open Go.RowKit Go.Proofs
theorem bal1 {w w' : World} {o : Obj} (h : Below (w.heap.size + 1) (w.alloc o) w') : Below w.heap.size w w' :=
  bthen (bself w o) (by rw [World.size_alloc]; exact h)

set_option maxRecDepth 100000 in
set_option maxHeartbeats 1000000 in
theorem name_any (t : Tm) (v : Value) (w : World) (hf : form t = true) (hs : size t ≤ 2000) (hT : TR w Any t v) (hTab : Tab w) :
    Calls Tryd.prog 53 #[v] w fun e w' => e = .returned (.string ⟨(txt (ord t)).toArray⟩) ∧ Below w.heap.size w w' := by
    obtain ⟨A, c, rfl⟩ := hT.form3
    have HT := Lib.hid hT
    have HTab := Lib.hid hTab
    have HF := Lib.hid hf
    have HS := Lib.hid hs
    have hfo := forms_any (w.alloc (.cells #[.int .i64 t.k, .int .i64 t.n, .slice A t.args.length c] 25))
    rw [World.size_alloc] at hfo
    clear hT hTab hf hs
    go_enter Tryd.func53, Tryd.ntmps53
    go_wp2_with fail
    refine hfo.mono ?_
    rintro e W1 ⟨rfl, hF, hb⟩
    have HB1 := Lib.hid (bal1 hb)
    have hA := (hb.block w.heap.size (by simp)).trans (heap_alloc_new w _)
    obtain ⟨q0, q1, q2, _, _, _⟩ := cell3_load hA
    have HFM := Lib.hid hF
    have hic := order_any _ t _ _ W1 (Nat.le_refl _) HF.out HS.out (HT.out.bel HB1.out) HFM.out (HTab.out.bel HB1.out)
    clear hb hA hF hfo
    go_wp2_with fail
    refine hic.mono ?_
    rintro e w2 ⟨v2, rfl, hT2, hb⟩
    have HB2 := Lib.hid (bthen HB1.out hb)
    have hit := text_any _ (ord t) _ _ w2 (Nat.le_refl _) (by rw [form_ord]; exact HF.out) (by rw [size_ord]; exact HS.out) hT2.any (HFM.out.bel hb) (HTab.out.bel HB2.out)
    clear hT2 hb hic q0 q1 q2
    go_wp2_with fail
    refine hit.mono ?_
    rintro e w3 ⟨rfl, hb⟩
    go_wp2_with fail
    go_ret
    exact ⟨rfl, bthen HB2.out hb⟩

/-- Two terms of the same name. -/
def sameS (a b : Tm) : Bool := may a && may b && decide (txt (ord a) = txt (ord b))
set_option maxRecDepth 100000 in
set_option maxHeartbeats 1000000 in
theorem Same_any (a b : Tm) (va vb : Value) (w : World) (hA : TR w Any a va) (hB : TR w Any b vb) (hTab : Tab w) :
    Calls Tryd.prog 34 #[va, vb] w fun e w' => e = .returned (.bool (sameS a b)) ∧ Below w.heap.size w w' := by
    obtain ⟨A, c, rfl⟩ := hA.form3
    obtain ⟨A', c', rfl⟩ := hB.form3
    have hbel : ∀ W, Below (w.heap.size + 2) ((w.alloc (.cells #[.int .i64 a.k, .int .i64 a.n, .slice A a.args.length c] 25)).alloc (.cells #[.int .i64 b.k, .int .i64 b.n, .slice A' b.args.length c'] 25)) W → Below w.heap.size w W :=
      fun W h => (balloc (bself w _) _).trans (h.mono (by omega))
    have hma := fun x : Later (w.heap.size + 2) ((w.alloc (.cells #[.int .i64 a.k, .int .i64 a.n, .slice A a.args.length c] 25)).alloc (.cells #[.int .i64 b.k, .int .i64 b.n, .slice A' b.args.length c'] 25)) => may_any a _ x.w (hA.bel (hbel _ x.2))
    have hmb := fun x : Later (w.heap.size + 2) ((w.alloc (.cells #[.int .i64 a.k, .int .i64 a.n, .slice A a.args.length c] 25)).alloc (.cells #[.int .i64 b.k, .int .i64 b.n, .slice A' b.args.length c'] 25)) => may_any b _ x.w (hB.bel (hbel _ x.2))
    have hna := fun (h : may a = true) (x : Later (w.heap.size + 2) ((w.alloc (.cells #[.int .i64 a.k, .int .i64 a.n, .slice A a.args.length c] 25)).alloc (.cells #[.int .i64 b.k, .int .i64 b.n, .slice A' b.args.length c'] 25))) => name_any a _ x.w ((may_iff a).1 h).1 ((may_iff a).1 h).2 (hA.bel (hbel _ x.2)) (hTab.bel (hbel _ x.2))
    have hnb := fun (h : may b = true) (x : Later (w.heap.size + 2) ((w.alloc (.cells #[.int .i64 a.k, .int .i64 a.n, .slice A a.args.length c] 25)).alloc (.cells #[.int .i64 b.k, .int .i64 b.n, .slice A' b.args.length c'] 25))) => name_any b _ x.w ((may_iff b).1 h).1 ((may_iff b).1 h).2 (hB.bel (hbel _ x.2)) (hTab.bel (hbel _ x.2))
    have HBel := Lib.hid hbel
    clear hA hB hTab hbel
    have HH := heap2 w (.cells #[.int .i64 a.k, .int .i64 a.n, .slice A a.args.length c] 25) (.cells #[.int .i64 b.k, .int .i64 b.n, .slice A' b.args.length c'] 25)
    obtain ⟨p0, p1, p2, _, _, _⟩ := cell3_load HH.1
    obtain ⟨r0, r1, r2, _, _, _⟩ := cell3_load HH.2
    have l0 : ∀ x : Later (w.heap.size + 2) ((w.alloc (.cells #[.int .i64 a.k, .int .i64 a.n, .slice A a.args.length c] 25)).alloc (.cells #[.int .i64 b.k, .int .i64 b.n, .slice A' b.args.length c'] 25)), x.w.cell? ⟨w.heap.size, 0, none⟩ = some (.int .i64 a.k) := fun x => x.cell p0 (by simp)
    have l1 : ∀ x : Later (w.heap.size + 2) ((w.alloc (.cells #[.int .i64 a.k, .int .i64 a.n, .slice A a.args.length c] 25)).alloc (.cells #[.int .i64 b.k, .int .i64 b.n, .slice A' b.args.length c'] 25)), x.w.cell? ⟨w.heap.size, 1, none⟩ = some (.int .i64 a.n) := fun x => x.cell p1 (by simp)
    have l2 : ∀ x : Later (w.heap.size + 2) ((w.alloc (.cells #[.int .i64 a.k, .int .i64 a.n, .slice A a.args.length c] 25)).alloc (.cells #[.int .i64 b.k, .int .i64 b.n, .slice A' b.args.length c'] 25)), x.w.cell? ⟨w.heap.size, 2, none⟩ = some (.slice A a.args.length c) := fun x => x.cell p2 (by simp)
    have l3 : ∀ x : Later (w.heap.size + 2) ((w.alloc (.cells #[.int .i64 a.k, .int .i64 a.n, .slice A a.args.length c] 25)).alloc (.cells #[.int .i64 b.k, .int .i64 b.n, .slice A' b.args.length c'] 25)), x.w.cell? ⟨w.heap.size + 1, 0, none⟩ = some (.int .i64 b.k) := fun x => x.cell r0 (by simp)
    have l4 : ∀ x : Later (w.heap.size + 2) ((w.alloc (.cells #[.int .i64 a.k, .int .i64 a.n, .slice A a.args.length c] 25)).alloc (.cells #[.int .i64 b.k, .int .i64 b.n, .slice A' b.args.length c'] 25)), x.w.cell? ⟨w.heap.size + 1, 1, none⟩ = some (.int .i64 b.n) := fun x => x.cell r1 (by simp)
    have l5 : ∀ x : Later (w.heap.size + 2) ((w.alloc (.cells #[.int .i64 a.k, .int .i64 a.n, .slice A a.args.length c] 25)).alloc (.cells #[.int .i64 b.k, .int .i64 b.n, .slice A' b.args.length c'] 25)), x.w.cell? ⟨w.heap.size + 1, 2, none⟩ = some (.slice A' b.args.length c') := fun x => x.cell r2 (by simp)
    clear HH p0 p1 p2 r0 r1 r2
    obtain ⟨sa, hsa⟩ : ∃ sa : ByteArray, sa = ⟨(txt (ord a)).toArray⟩ := ⟨_, rfl⟩
    obtain ⟨sb, hsb⟩ : ∃ sb : ByteArray, sb = ⟨(txt (ord b)).toArray⟩ := ⟨_, rfl⟩
    rw [← hsa] at hna
    rw [← hsb] at hnb
    have heq : sameS a b = (may a && may b && (sa.toList == sb.toList)) := by unfold sameS; rw [hsa, hsb, bs_toList, bs_toList]; congr 1; exact Bool.eq_iff_iff.2 (by simp)
    rw [heq]
    clear hsa hsb heq
    obtain ⟨ma, hm⟩ : ∃ ma, may a = ma := ⟨_, rfl⟩
    rw [hm] at hma hna ⊢
    clear hm
    obtain ⟨mb, hm⟩ : ∃ mb, may b = mb := ⟨_, rfl⟩
    rw [hm] at hmb hnb ⊢
    clear hm
    cases ma <;> cases mb
    all_goals try replace hna := hna rfl
    all_goals try replace hnb := hnb rfl
    all_goals go_enter Tryd.func34, Tryd.ntmps34
    all_goals go_wp2_with fail
    all_goals refine wp_region_later (w.heap.size + 2) (by kernel_rfl) ?_
    all_goals repeat (first | go_big_quiet_step ((first | (go_at_call 30; with_reducible exact later_call (hma _) (by simp)) | (go_at_call 30; with_reducible exact later_call (hmb _) (by simp)) | (go_at_call 53; with_reducible exact later_call (hna _) (by simp)) | (go_at_call 53; with_reducible exact later_call (hnb _) (by simp)))) | quiet_step ((first | (go_at_call 30; with_reducible exact later_call (hma _) (by simp)) | (go_at_call 30; with_reducible exact later_call (hmb _) (by simp)) | (go_at_call 53; with_reducible exact later_call (hna _) (by simp)) | (go_at_call 53; with_reducible exact later_call (hnb _) (by simp)))))
    all_goals refine wpQuiet_nil (later_all ?_)
    all_goals intro wx hx
    all_goals go_wp2_with fail
    all_goals go_ret
    all_goals exact ⟨rfl, HBel.out _ hx⟩
end Go.Proofs.YtfhpnkmhppfeiaaDoor
