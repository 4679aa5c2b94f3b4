/- The reference: Order. -/
import Derived.Test.YtfhpnkmhppfeiaaDoorG5
set_option linter.unusedVariables false
set_option linter.unusedSimpArgs false
namespace Go.Proofs.YtfhpnkmhppfeiaaDoor
open Go.RowKit Go.Proofs
theorem ots_swap {base g cap : Nat} {x y : Tm} {w : World} (h : OTS w base [x, y] (.slice (some ⟨g, 0, none⟩) 2 cap)) :
    ∃ (xk xn : Int) (xA : Option Addr) (xl xc : Nat) (yk yn : Int) (yA : Option Addr) (yl yc : Nat) (tail : List Value),
      w.heap[g]? = some (.cells (.int .i64 xk :: .int .i64 xn :: .slice xA xl xc :: .int .i64 yk :: .int .i64 yn :: .slice yA yl yc :: tail).toArray 25 (0, 0)) ∧
      ∀ w', w'.heap[g]? = some (.cells (.int .i64 yk :: .int .i64 yn :: .slice yA yl yc :: .int .i64 xk :: .int .i64 xn :: .slice xA xl xc :: tail).toArray 25 (0, 0)) → Grew (fun b => b = g) w w' → OTS w' base [y, x] (.slice (some ⟨g, 0, none⟩) 2 cap) := by
  obtain ⟨cs, h, hr⟩ := h
  rcases h.2 with ⟨e, hn⟩ | ⟨g', cap', cur, e, hb, hh, hc1, hc2, hcur, htake⟩
  · simp at hn
  cases e
  have hlen := h.1
  obtain ⟨x0, x1, x2, ex0, ex1, ex2, hx⟩ := hr 0 x rfl
  obtain ⟨y0, y1, y2, ey0, ey1, ey2, hy⟩ := hr 1 y rfl
  have ecs : cs = [x0, x1, x2, y0, y1, y2] := by
    match cs, hlen with
    | [a, b, c, d, e, f], _ => simp_all
  subst ecs
  obtain ⟨A, c, ea⟩ := hx.form3
  obtain ⟨A', c', eb⟩ := hy.form3
  simp only [Value.agg.injEq, Array.mk.injEq, List.cons.injEq, and_true] at ea eb
  obtain ⟨rfl, rfl, rfl⟩ := ea
  obtain ⟨rfl, rfl, rfl⟩ := eb
  have ecur : cur = (.int .i64 x.k :: .int .i64 x.n :: .slice A x.args.length c :: .int .i64 y.k :: .int .i64 y.n :: .slice A' y.args.length c' :: cur.toList.drop 6).toArray := by
    have h6 : cur.toList.take 6 = [.int .i64 x.k, .int .i64 x.n, .slice A x.args.length c, .int .i64 y.k, .int .i64 y.n, .slice A' y.args.length c'] := htake
    have := List.take_append_drop 6 cur.toList
    rw [h6] at this
    rw [← Array.toList_inj]
    exact this.symm
  refine ⟨_, _, _, _, _, _, _, _, _, _, cur.toList.drop 6, by rw [← ecur]; exact hh, fun w' hh' hg => ?_⟩
  have keep : ∀ {t : Tm} {v : Value}, TR w (fun b => base ≤ b ∧ (Value.slice (some ⟨g, 0, none⟩) 2 cap).ownBlock ≠ some b) t v → TR w' (fun b => base ≤ b ∧ (Value.slice (some ⟨g, 0, none⟩) 2 cap).ownBlock ≠ some b) t v := fun hT => hT.grew hg fun k hk e => hk.2 (by rw [e]; rfl)
  refine ⟨[.int .i64 y.k, .int .i64 y.n, .slice A' y.args.length c', .int .i64 x.k, .int .i64 x.n, .slice A x.args.length c], ⟨rfl, .inr ⟨g, cap, _, rfl, hb, hh', hc1, hc2, ?_, by simp⟩⟩, fun j a ha => ?_⟩
  · rw [← hcur]
    have := congrArg Array.size ecur
    simp at this ⊢
    omega
  · match j, ha with
    | 0, ha => simp at ha; subst ha; exact ⟨_, _, _, rfl, rfl, rfl, keep hy⟩
    | 1, ha => simp at ha; subst ha; exact ⟨_, _, _, rfl, rfl, rfl, keep hx⟩
set_option maxRecDepth 100000 in
set_option maxHeartbeats 2000000 in
theorem rOrder_any : ∀ (N : Nat) (t : Tm) (v : Value) (w : World), size t ≤ N → form t = true → size t ≤ 2000 → TR w Any t v → Tab w →
    Calls Tryd.prog 18 #[v] w fun e w' => ∃ v', e = .returned v' ∧ TR w' (fun b => w.heap.size ≤ b) (ord t) v' ∧ Below w.heap.size w w' := by
  intro N
  induction N with
  | zero => intro t v w h; have := size_pos t; omega
  | succ N ih =>
    rintro ⟨k, n, args⟩ v w hN hf hsz hT hTab
    obtain ⟨s, rfl, hk, hn, hS⟩ := hT.inv
    obtain ⟨A, c, rfl, hc1, hc2⟩ := hS.form
    have hshort := txt_short hT.rng hsz
    have HF := Lib.hid hf
    have HSZ := Lib.hid hsz
    have HS := Lib.hid hS
    have HN := Lib.hid hN
    have HTab := Lib.hid hTab
    clear hf hsz hS hN hT hTab hshort
    have hl3 : args.length ≤ 1000 := by
      have := (headOK_iff.1 (form_head HF.out).1).2.1
      rw [this]; unfold arity; repeat' split
      all_goals omega
    obtain ⟨i0, hi, hz0, hz1, hz2⟩ := info_parts info25
    go_enter Tryd.func18, Tryd.ntmps18
    go_wp2_with fail
    obtain ⟨W2, hW2⟩ : ∃ W2 : World, W2 = ((w.alloc (.cells #[.int .i64 k, .int .i64 n, .slice A args.length c] 25)).alloc (.cells #[.int .i64 0, .int .i64 0, .slice none 0 0] 25)).alloc (.cells #[.int .i64 k, .int .i64 n, .slice none 0 0] 25) := ⟨_, rfl⟩
    rw [← hW2]
    have HB2 := Lib.hid (show Below w.heap.size w W2 by rw [hW2]; exact balloc (balloc (bself w _) _) _)
    have HS2 := Lib.hid (show W2.heap.size = w.heap.size + 1 + 1 + 1 by rw [hW2]; simp)
    have HO2 := Lib.hid (show W2.heap[w.heap.size + 1 + 1]? = some (.cells #[.int .i64 k, .int .i64 n, .slice none 0 0] 25 (0, 0)) by
      rw [hW2]; have := heap_alloc_new ((w.alloc (.cells #[.int .i64 k, .int .i64 n, .slice A args.length c] 25)).alloc (.cells #[.int .i64 0, .int .i64 0, .slice none 0 0] 25)) (.cells #[.int .i64 k, .int .i64 n, .slice none 0 0] 25); simpa using this)
    have HC2 := Lib.hid (show W2.heap[w.heap.size + 1]? = some (.cells #[.int .i64 0, .int .i64 0, .slice none 0 0] 25 (0, 0)) by
      rw [hW2, Below.heap_alloc _ _ _ (by simp)]; have := heap_alloc_new (w.alloc (.cells #[.int .i64 k, .int .i64 n, .slice A args.length c] 25)) (.cells #[.int .i64 0, .int .i64 0, .slice none 0 0] 25); simpa using this)
    have HA2 := Lib.hid (show W2.heap[w.heap.size]? = some (.cells #[.int .i64 k, .int .i64 n, .slice A args.length c] 25 (0, 0)) by
      rw [hW2, Below.heap_alloc _ _ _ (by simp; omega), Below.heap_alloc _ _ _ (by simp)]; exact heap_alloc_new _ _)
    clear hW2
    go_loopw [4] (fun i wr => ∃ (j : Nat) (l : Value), i = .int .i64 j ∧ j ≤ args.length ∧ Hid (wr.heap[w.heap.size + 1 + 1]? = some (.cells #[.int .i64 k, .int .i64 n, l] 25 (0, 0))) ∧ Hid (OTS wr (w.heap.size + 1 + 1 + 1) (ordL (args.take j)) l) ∧ Hid (Below (w.heap.size + 1 + 1) W2 wr)) (fun i _ => args.length - (intOf i).toNat)
    case atStart => exact ⟨0, .slice none 0 0, rfl, Nat.zero_le _, HO2, OTS.nil _ _, Below.refl _ _⟩
    case round =>
      obtain ⟨j, l, rfl, hj, hO, hown, hb⟩ := hrel
      by_cases hlt : j < args.length
      · obtain ⟨a, ha⟩ : ∃ a, args[j]? = some a := ⟨_, List.getElem?_eq_getElem hlt⟩
        obtain ⟨b, o, A2, cc, rfl, _, hbs, c0, c1, c2, hTa⟩ := HS.out.at_ ha
        have HBW := Lib.hid (show Below w.heap.size w wr from HB2.out.trans (hb.out.mono (by omega)))
        have d0 := (HBW.out.cell (p := ⟨b, o + j * 3, none⟩) hbs).trans c0
        have d1 := (HBW.out.cell (p := ⟨b, o + j * 3 + 1, none⟩) hbs).trans c1
        have d2 := (HBW.out.cell (p := ⟨b, o + j * 3 + 2, none⟩) hbs).trans c2
        have HAA := Lib.hid ha
        have HTA := Lib.hid hTa
        clear ha c0 c1 c2 hTa
        obtain ⟨al, cl, rfl, hcl1, hcl2⟩ := hown.out.form
        have D0 := Lib.hid d0
        have D1 := Lib.hid d1
        have D2 := Lib.hid d2
        clear d0 d1 d2
        have qz2 := (blk_cell ((hb.out.block w.heap.size (by omega)).trans HA2.out) 2).trans rfl
        go_wp2_with fail
        have HB5 := Lib.hid (Below.refl wr.heap.size wr)
        have hwrs : w.heap.size + 1 + 1 + 1 ≤ wr.heap.size := by have := hb.out.size; have := HS2.out; omega
        have HO5 := Lib.hid (show wr.heap[w.heap.size + 1 + 1]? = some (.cells #[.int .i64 k, .int .i64 n, .slice al (ordL (args.take j)).length cl] 25 (0, 0)) from hO.out)
        have HA5 := Lib.hid ((hb.out.block w.heap.size (by omega)).trans HA2.out)
        have HOW5 := Lib.hid hown.out
        clear hown hO
        refine wp_region_post 9 (R := fun _ => Grew None_) (B := fun _ _ => True) (C := Grew (None_) wr)
          [fun v _ => v = .pointer (some ⟨w.heap.size + 1 + 1, 2, none⟩),
            fun v _ => v = .slice al (ordL (args.take j)).length cl,
            fun v _ => v = .pointer (some ⟨w.heap.size, 2, none⟩),
            fun v _ => v = .slice (some ⟨b, o, none⟩) args.length c,
            fun v _ => v = .int .i64 j,
            fun v _ => v = .pointer (some ⟨b, o + j * 3, none⟩),
            fun v _ => v = .agg #[.int .i64 a.k, .int .i64 a.n, .slice A2 a.args.length cc],
            fun v w' => TR w' (fun b => wr.heap.size ≤ b) (ord a) v,
            fun v w' => ∃ g d0 d1 d2, v = .slice (some ⟨g, 0, none⟩) 1 1 ∧ wr.heap.size ≤ g ∧ w'.heap[g]? = some (.cells #[d0, d1, d2] 25 (0, 0)) ∧ TR w' (fun b => wr.heap.size ≤ b) (ord a) (.agg #[d0, d1, d2])]
          [[], [0], [], [2], [], [3, 4], [5], [6], [7]] (by kernel_rfl) (by kernel_rfl) (by kernel_rfl) (fun _ _ _ _ h h' => h.trans h') ?_ (fun _ _ _ _ _ _ _ _ _ _ _ => trivial) (Grew.drew _ _) (fun _ _ => trivial) ?_ ?_
        · intro i j v w1 w2 _ _ _ hg
          refine lasts ?_ j v
          simp only [List.forall_mem_cons, List.not_mem_nil, false_implies, implies_true, and_true]
          refine ⟨fun _ h => h, fun _ h => h, fun _ h => h, fun _ h => h, fun _ h => h, fun _ h => h, fun _ h => h, fun _ h => h.grew hg fun _ _ h => h.elim, fun _ ⟨g, d0, d1, d2, e, h1, h2, h3⟩ => ⟨g, d0, d1, d2, e, h1, hg.heap h2 fun h => h.elim, h3.grew hg fun _ _ h => h.elim⟩⟩
        · intro vals
          simp only [List.take_succ_cons, List.take_zero, Steps_, List.headD_cons, List.tail_cons, List.forall_mem_cons, List.not_mem_nil, false_implies, implies_true, and_true, List.getD_cons_zero, List.getD_cons_succ, Act.put, List.setIfInBounds_toArray, List.set_cons_zero, List.set_cons_succ, Nat.zero_add, Nat.reduceAdd]
          refine ⟨?_, ?_, ?_, ?_, ?_, ?_, ?_, ?_, ?_⟩
          · rintro w1 hC _ _
            go_wp2_with fail
            exact ⟨_, rfl, Grew.refl _ _, rfl⟩
          · rintro w1 hC _ h0
            rw [h0]
            have q := (blk_cell (hC.heap HO5.out fun h => h.elim) 2).trans rfl
            go_wp2_with fail
            exact ⟨_, rfl, Grew.refl _ _, rfl⟩
          · rintro w1 hC _ _
            go_wp2_with fail
            exact ⟨_, rfl, Grew.refl _ _, rfl⟩
          · rintro w1 hC _ h2
            rw [h2]
            have q := (blk_cell (hC.heap HA5.out fun h => h.elim) 2).trans rfl
            go_wp2_with fail
            exact ⟨_, rfl, Grew.refl _ _, rfl⟩
          · rintro w1 hC _ _
            go_wp2_with fail
            exact ⟨_, rfl, Grew.refl _ _, rfl⟩
          · rintro w1 hC _ ⟨h3, h4⟩
            rw [h3, h4]
            go_wp2_with fail
            exact ⟨_, rfl, Grew.refl _ _, rfl⟩
          · rintro w1 hC _ h5
            rw [h5]
            have q0 := hC.cell (p := ⟨b, o + j * 3, none⟩) D0.out fun h => h.elim
            have q1 := hC.cell (p := ⟨b, o + j * 3 + 1, none⟩) D1.out fun h => h.elim
            have q2 := hC.cell (p := ⟨b, o + j * 3 + 2, none⟩) D2.out fun h => h.elim
            go_wp2_with fail
            exact ⟨_, rfl, Grew.refl _ _, rfl⟩
          · rintro w1 hC _ h6
            rw [h6]
            have hok := okT_at HF.out HSZ.out HAA.out
            have hbb := bthen HBW.out hC.all
            have hic := ih a _ w1 (by have := size_at (k := k) (n := n) HAA.out; have := HN.out; omega) hok.1 hok.2 (HTA.out.bel hbb) (HTab.out.bel hbb)
            have HCS := Lib.hid hC.size
            clear hbb hok
            go_wp2_with (go_at_call 18; refine hic.mono ?_; rintro e w2 ⟨v2, rfl, hT2, hb2⟩)
            exact ⟨_, rfl, Grew.of_below hb2, hT2.mono fun b hb _ => Nat.le_trans HCS.out hb⟩
          · rintro w1 hC _ h7
            obtain ⟨s4, e4, _, _, hs4⟩ := (show TR w1 _ (.mk (ord a).k (ord a).n (ord a).args) _ from (ord a).eta ▸ h7).inv
            obtain ⟨A4, cc4, rfl, _⟩ := hs4.form
            rw [e4] at h7 ⊢
            have HCS := Lib.hid hC.size
            have H4 := Lib.hid h7
            clear h7 hs4
            go_wp2_with fail
            exact ⟨_, rfl, Grew.alloc _ _ _, w1.heap.size, _, _, _, rfl, HCS.out, heap_alloc_new _ _, H4.out.bel (bself _ _)⟩
        · intro vals w1 hC hv
          have x0 : vals 0 = .pointer (some ⟨w.heap.size + 1 + 1, 2, none⟩) := hv 0 (by omega)
          have x1 : vals 1 = .slice al (ordL (args.take j)).length cl := hv 1 (by omega)
          have x2 : vals 2 = .pointer (some ⟨w.heap.size, 2, none⟩) := hv 2 (by omega)
          have x3 : vals 3 = .slice (some ⟨b, o, none⟩) args.length c := hv 3 (by omega)
          have x4 : vals 4 = .int .i64 j := hv 4 (by omega)
          have x5 : vals 5 = .pointer (some ⟨b, o + j * 3, none⟩) := hv 5 (by omega)
          have x6 : vals 6 = .agg #[.int .i64 a.k, .int .i64 a.n, .slice A2 a.args.length cc] := hv 6 (by omega)
          generalize hgoal : wpList _ _ _ _ _ _ = G; obtain ⟨g, e0, e1, e2, x8, hg5, hh5, hT5⟩ : ∃ g d0 d1 d2, vals 8 = .slice (some ⟨g, 0, none⟩) 1 1 ∧ wr.heap.size ≤ g ∧ w1.heap[g]? = some (.cells #[d0, d1, d2] 25 (0, 0)) ∧ TR w1 (fun b => wr.heap.size ≤ b) (ord a) (.agg #[d0, d1, d2]) := hv 8 (by omega); subst hgoal
          simp only [List.take_succ_cons, List.take_zero, List.drop_succ_cons, List.drop_zero, List.drop_nil, lexA, Act.put, List.setIfInBounds_toArray, List.set_cons_zero, List.set_cons_succ, Nat.zero_add, Nat.reduceAdd, x0, x1, x2, x3, x4, x5, x6, x8]
          clear x0 x1 x2 x3 x4 x5 x6 x8 hv
          have HO1 := Lib.hid (hC.heap HO5.out fun h => h.elim)
          have HOW1 := Lib.hid (HOW5.out.bel hC.all)
          obtain ⟨cs, hcs, _⟩ := HOW1.out
          have HCS := Lib.hid hcs
          have HT5 := Lib.hid hT5
          have HH5 := Lib.hid hh5
          have HJ := Lib.hid (show (ordL (args.take j)).length = j by rw [ordL_map, List.length_map, List.length_take]; omega)
          have HSZ1 := Lib.hid (show w.heap.size + 1 + 1 + 1 ≤ w1.heap.size ∧ wr.heap.size ≤ w1.heap.size from ⟨by have := hC.size; have := hwrs; omega, hC.size⟩)
          clear hcs hT5 hh5
          go_wp2_with (at_builtin; refine wpList_append_own_at _ rfl _ _ 22 rfl (w.heap.size + 1 + 1 + 1) 25 i0 _ 3 40 Tryd.underlying22 hi hz0 hz1 hz2 rfl (by decide) (.slice al (ordL (args.take j)).length cl) _ cs rfl HCS.out ⟨g, 0, none⟩ 1 1 [e0, e1, e2] rfl rfl (news3 HH5.out) (one3 HT5.out) ?_ ?_ ?_ ?_; rotate_right; intro v1 w2 hown2 hg2 _ hloc; have hO2 := hg2.block (w.heap.size + 1 + 1) (by have := HSZ1.out.1; omega) (fun e => by have := (HOW1.out.base _ e.symm).1; omega) ▸ HO1.out; have q0 := (blk_cell hO2 2).trans rfl; have q1 := blk_free hO2 2; obtain ⟨A9, c9, rfl, _, _⟩ := own_form hown2; have HO9 := Lib.hid hO2; clear hO2; have HL9 := Lib.hid hloc; clear hloc)
          · have hnew := HOW1.out.append HCS.out HT5.out (fun k hk => (HOW5.out.base k hk).2) (by have := hwrs; omega) hown2 hg2 HL9.out
            have htk : ordL (args.take (j + 1)) = ordL (args.take j) ++ [ord a] := by
              rw [List.take_add_one, HAA.out, ordL_map, ordL_map]; simp
            go_roundw
            case rel =>
              refine ⟨j + 1, _, by go_num, by omega, blk_set HO9.out 2 _, ?_, ?_⟩
              · unfold Hid
                rw [htk]
                exact hnew.grew ((Grew.refl (fun b => b = w.heap.size + 1 + 1) w2).setCell rfl _) fun k hk => by omega
              · have hb0 := hb.out.size
                have hb5 := HB5.out.size
                unfold Hid
                refine Below.setCell (B := w.heap.size + 1 + 1) (p := ⟨w.heap.size + 1 + 1, 2, none⟩) ?_ (Nat.le_refl _) _
                refine Below.grown ?_ hg2 (by have := HSZ1.out.1; omega) (fun k hk => by have := (HOW1.out.base k hk).1; omega)
                exact hb.out.trans ((HB5.out.mono (by omega)).trans (hC.all.mono (by omega)))
            case measure => simp [intOf]; omega
          case refine_3.refine_1 => rw [HJ.out]; have := hj; unfold maxLen; omega
          case refine_3.refine_2 => rw [HJ.out]; omega
          case refine_3.refine_3 => exact HSZ1.out.1
      · obtain rfl : j = args.length := by omega
        rw [List.take_length] at hown
        have hHB := Lib.hid (HB2.out.trans (hb.out.mono (by omega)))
        have HA9 := Lib.hid ((hb.out.block w.heap.size (by omega)).trans HA2.out)
        have HOK := hO
        have qz2 := (blk_cell HA9.out 2).trans rfl
        have HC9 := Lib.hid ((hb.out.block (w.heap.size + 1) (by omega)).trans HC2.out)
        have HS9 := Lib.hid (show w.heap.size + 1 + 1 + 1 ≤ wr.heap.size by have := hb.out.size; have := HS2.out; omega)
        by_cases hk8 : k = 8
        · have hl2 : args.length = 2 := by have := (headOK_iff.1 (form_head HF.out).1).2.1; rw [this, hk8]; rfl
          obtain ⟨p, q, rfl⟩ : ∃ p q, args = [p, q] := by
            match args, hl2 with
            | [p, q], _ => exact ⟨p, q, rfl⟩
          have hk8' : (k == 8) = true := by simpa using hk8
          clear hk8 hl2
          have hown' : OTS wr (w.heap.size + 1 + 1 + 1) [ord p, ord q] l := hown.out
          have hpq : form (ord p) = true ∧ size (ord p) ≤ 2000 := by rw [form_ord, size_ord]; exact okT_at HF.out HSZ.out (j := 0) rfl
          have hqq : form (ord q) = true ∧ size (ord q) ≤ 2000 := by rw [form_ord, size_ord]; exact okT_at HF.out HSZ.out (j := 1) rfl
          have HE : Hid (ord (.mk k n [p, q]) = .mk k n (turn k [ord p, ord q])) := rfl
          generalize ord p = pp at hown' hpq HE
          generalize ord q = qq at hown' hqq HE
          obtain ⟨al, cl, rfl, hcl1, hcl2⟩ := hown'.form
          obtain ⟨g, o, A0, m0, rfl, _, hgs, g0, g1, g2, hT0⟩ := hown'.ts.at_ (j := 0) rfl
          obtain ⟨g', o', A1, m1, eg, _, _, g3, g4, g5, hT1⟩ := hown'.ts.at_ (j := 1) rfl
          cases eg
          have HT0 := Lib.hid hT0
          have HT1 := Lib.hid hT1
          have HPQ := Lib.hid hpq
          have HQQ := Lib.hid hqq
          have HOW := Lib.hid hown'
          have HO0 := Lib.hid hO.out
          clear hT0 hT1 hpq hqq hown' hown hO
          have q0 : ∀ x : Later wr.heap.size wr, x.w.cell? ⟨w.heap.size + 1 + 1, 0, none⟩ = some (.int .i64 k) := fun x => x.cell ((blk_cell HOK.out 0).trans rfl) (by have := HS9.out; simp; omega)
          have q1 : ∀ x : Later wr.heap.size wr, x.w.cell? ⟨w.heap.size + 1 + 1, 2, none⟩ = some (.slice (some ⟨g, o, none⟩) 2 cl) := fun x => x.cell ((blk_cell HO0.out 2).trans rfl) (by have := HS9.out; simp; omega)
          have r0 : ∀ x : Later wr.heap.size wr, x.w.cell? ⟨g, o, none⟩ = some (.int .i64 pp.k) := fun x => x.cell (by simpa using g0) (by simpa using hgs)
          have r1 : ∀ x : Later wr.heap.size wr, x.w.cell? ⟨g, o + 1, none⟩ = some (.int .i64 pp.n) := fun x => x.cell (by simpa using g1) (by simpa using hgs)
          have r2 : ∀ x : Later wr.heap.size wr, x.w.cell? ⟨g, o + 2, none⟩ = some (.slice A0 pp.args.length m0) := fun x => x.cell (by simpa using g2) (by simpa using hgs)
          have r3 : ∀ x : Later wr.heap.size wr, x.w.cell? ⟨g, o + 3, none⟩ = some (.int .i64 qq.k) := fun x => x.cell (by simpa using g3) (by simpa using hgs)
          have r4 : ∀ x : Later wr.heap.size wr, x.w.cell? ⟨g, o + 3 + 1, none⟩ = some (.int .i64 qq.n) := fun x => x.cell (by simpa using g4) (by simpa using hgs)
          have r5 : ∀ x : Later wr.heap.size wr, x.w.cell? ⟨g, o + 3 + 2, none⟩ = some (.slice A1 qq.args.length m1) := fun x => x.cell (by simpa using g5) (by simpa using hgs)
          have hc0 : Hid (∀ x : Later wr.heap.size wr, Calls Tryd.prog 28 #[.agg #[.int .i64 pp.k, .int .i64 pp.n, .slice A0 pp.args.length m0]] x.w fun e w' => e = .returned (.string ⟨(txt pp).toArray⟩) ∧ Below x.w.heap.size x.w w') := fun x =>
            rText_any _ pp _ x.w (Nat.le_refl _) HPQ.out.1 HPQ.out.2 (HT0.out.any.later (Below.refl _ _) (Nat.le_refl _) x) (HTab.out.later hHB.out hHB.out.size x)
          have hc1 : Hid (∀ x : Later wr.heap.size wr, Calls Tryd.prog 28 #[.agg #[.int .i64 qq.k, .int .i64 qq.n, .slice A1 qq.args.length m1]] x.w fun e w' => e = .returned (.string ⟨(txt qq).toArray⟩) ∧ Below x.w.heap.size x.w w') := fun x =>
            rText_any _ qq _ x.w (Nat.le_refl _) HQQ.out.1 HQQ.out.2 (HT1.out.any.later (Below.refl _ _) (Nat.le_refl _) x) (HTab.out.later hHB.out hHB.out.size x)
          have t0 := bs_toList (txt pp)
          have t1 := bs_toList (txt qq)
          clear g0 g1 g2 g3 g4 g5
          cases hgt : bGt (txt pp) (txt qq) with
          | true =>
            have hgt' : (!Op.bytesLess (txt pp) (txt qq) && !(txt pp == txt qq)) = true := by rw [← bLess_eq]; exact hgt
            have HGT := Lib.hid hgt
            clear hgt
            go_wp2_with fail
            refine wp_region_later wr.heap.size (by kernel_rfl) ?_
            repeat (first | go_big_quiet_step ((go_at_call 28; first | (with_reducible exact later_call (hc0.out _) (Nat.le_refl _)) | (with_reducible exact later_call (hc1.out _) (Nat.le_refl _)))) | quiet_step ((go_at_call 28; first | (with_reducible exact later_call (hc0.out _) (Nat.le_refl _)) | (with_reducible exact later_call (hc1.out _) (Nat.le_refl _)))))
            refine wpQuiet_nil (later_all ?_)
            intro wx hx
            have HWX := Lib.hid hx.size
            have HO1 := Lib.hid ((hx.block _ (by have := HS9.out; omega)).trans HO0.out)
            have HC1 := Lib.hid ((hx.block _ (by have := HS9.out; omega)).trans HC9.out)
            have HOX := Lib.hid (HOW.out.bel hx)
            have HX := Lib.hid (hHB.out.trans (hx.mono hHB.out.size))
            clear hx
            have q1 := (blk_cell HO1.out 0).trans rfl
            have q2 := (blk_cell HO1.out 1).trans rfl
            have q3 := (blk_cell HO1.out 2).trans rfl
            obtain rfl : o = 0 := by
              obtain ⟨cs, hown, _⟩ := HOX.out
              rcases hown.2 with ⟨e, _⟩ | ⟨g', cap, cur, e, _⟩ <;> cases e
              rfl
            obtain ⟨xk, xn, xA, xl, xc, yk, yn, yA, yl, yc, tail, hsw, hsw2⟩ := ots_swap HOX.out
            have HSW := Lib.hid hsw
            have HSW2 := Lib.hid hsw2
            have hgb := HOX.out.base g rfl
            have hne : w.heap.size + 1 + 1 ≠ g := by omega
            have hne2 : w.heap.size + 1 ≠ g := by omega
            have hne' : g ≠ w.heap.size + 1 + 1 := by omega
            have hne2' : g ≠ w.heap.size + 1 := by omega
            clear hsw hsw2 r0 r1 r2 r3 r4 r5
            go_wp2_with fail
            refine wp_region_post 14 (R := fun i => Grew (fun k => i = 13 ∧ k = g)) (B := fun i w' => (i = 7 ∨ i = 11 ∨ i = 13) → w'.heap[g]? = some (.cells (.int .i64 xk :: .int .i64 xn :: .slice xA xl xc :: .int .i64 yk :: .int .i64 yn :: .slice yA yl yc :: tail).toArray 25 (0, 0))) (C := Grew (fun k => k = g) wx)
              [fun v _ => v = .pointer (some ⟨w.heap.size + 1 + 1, 2, none⟩),
                fun v _ => v = .slice (some ⟨g, 0, none⟩) 2 cl,
                fun v _ => v = .pointer (some ⟨w.heap.size + 1 + 1, 2, none⟩),
                fun v _ => v = .slice (some ⟨g, 0, none⟩) 2 cl,
                fun v _ => v = .pointer (some ⟨w.heap.size + 1 + 1, 2, none⟩),
                fun v _ => v = .slice (some ⟨g, 0, none⟩) 2 cl,
                fun v _ => v = .pointer (some ⟨g, 3, none⟩),
                fun v _ => v = .agg #[.int .i64 yk, .int .i64 yn, .slice yA yl yc],
                fun v _ => v = .pointer (some ⟨w.heap.size + 1 + 1, 2, none⟩),
                fun v _ => v = .slice (some ⟨g, 0, none⟩) 2 cl,
                fun v _ => v = .pointer (some ⟨g, 0, none⟩),
                fun v _ => v = .agg #[.int .i64 xk, .int .i64 xn, .slice xA xl xc],
                fun v _ => v = .pointer (some ⟨g, 0, none⟩),
                fun _ w' => w'.heap[g]? = some (.cells (.int .i64 yk :: .int .i64 yn :: .slice yA yl yc :: .int .i64 yk :: .int .i64 yn :: .slice yA yl yc :: tail).toArray 25 (0, 0))]
              [[], [0], [], [2], [], [4], [5], [6], [], [8], [9], [10], [1], [7, 12]] (by kernel_rfl) (by kernel_rfl) (by kernel_rfl) (fun _ _ _ _ h h' => h.trans (h'.mono fun k _ e => e.2)) ?_ (by intro i j w1 w2 _ _ hne3 hnp _ hg hB hj; refine hg.heap (hB hj) fun e => ?_; obtain ⟨hi, -⟩ := e; subst hi; rcases hj with rfl | rfl | rfl; (exact hnp (List.contains_iff_mem.1 (by kernel_rfl))); (exact hnp (List.contains_iff_mem.1 (by kernel_rfl))); exact hne3 rfl) (Grew.drew _ _) (fun _ _ _ => HSW.out) ?_ ?_
            · intro i j v w1 w2 _ hne3 hC hg hv
              rcases Nat.lt_or_ge j 13 with hj | hj
              · have : j = 0 ∨ j = 1 ∨ j = 2 ∨ j = 3 ∨ j = 4 ∨ j = 5 ∨ j = 6 ∨ j = 7 ∨ j = 8 ∨ j = 9 ∨ j = 10 ∨ j = 11 ∨ j = 12 := by omega
                rcases this with rfl | rfl | rfl | rfl | rfl | rfl | rfl | rfl | rfl | rfl | rfl | rfl | rfl <;> exact hv
              · rcases Nat.eq_or_lt_of_le hj with rfl | hj
                · exact hg.heap hv fun e => hne3 e.1.symm
                · obtain ⟨d, rfl⟩ : ∃ d, j = d + 14 := ⟨j - 14, by omega⟩
                  trivial
            · intro vals
              simp only [List.take_succ_cons, List.take_zero, Steps_, List.headD_cons, List.tail_cons, List.forall_mem_cons, List.not_mem_nil, false_implies, implies_true, and_true, List.getD_cons_zero, List.getD_cons_succ, Act.put, List.setIfInBounds_toArray, List.set_cons_zero, List.set_cons_succ, Nat.zero_add, Nat.reduceAdd]
              refine ⟨?_, ?_, ?_, ?_, ?_, ?_, ?_, ?_, ?_, ?_, ?_, ?_, ?_, ?_⟩
              · rintro w1 hC _ _
                go_wp2_with fail
                exact ⟨_, rfl, Grew.refl _ _, rfl⟩
              · rintro w1 hC _ h0
                rw [h0]
                have q := (blk_cell (hC.heap HO1.out fun e => hne e) 2).trans rfl
                go_wp2_with fail
                exact ⟨_, rfl, Grew.refl _ _, rfl⟩
              · rintro w1 hC _ _
                go_wp2_with fail
                exact ⟨_, rfl, Grew.refl _ _, rfl⟩
              · rintro w1 hC _ h2
                rw [h2]
                have q := (blk_cell (hC.heap HO1.out fun e => hne e) 2).trans rfl
                go_wp2_with fail
                exact ⟨_, rfl, Grew.refl _ _, rfl⟩
              · rintro w1 hC _ _
                go_wp2_with fail
                exact ⟨_, rfl, Grew.refl _ _, rfl⟩
              · rintro w1 hC _ h4
                rw [h4]
                have q := (blk_cell (hC.heap HO1.out fun e => hne e) 2).trans rfl
                go_wp2_with fail
                exact ⟨_, rfl, Grew.refl _ _, rfl⟩
              · rintro w1 hC _ h5
                rw [h5]
                go_wp2_with fail
                exact ⟨_, rfl, Grew.refl _ _, rfl⟩
              · rintro w1 hC hB h6
                rw [h6]
                have hg := hB (by simp)
                have q3 := (blk_cell hg 3).trans rfl
                have q4 := (blk_cell hg 4).trans rfl
                have q5 := (blk_cell hg 5).trans rfl
                clear hg hB
                go_wp2_with fail
                exact ⟨_, rfl, Grew.refl _ _, rfl⟩
              · rintro w1 hC _ _
                go_wp2_with fail
                exact ⟨_, rfl, Grew.refl _ _, rfl⟩
              · rintro w1 hC _ h8
                rw [h8]
                have q := (blk_cell (hC.heap HO1.out fun e => hne e) 2).trans rfl
                go_wp2_with fail
                exact ⟨_, rfl, Grew.refl _ _, rfl⟩
              · rintro w1 hC _ h9
                rw [h9]
                go_wp2_with fail
                exact ⟨_, rfl, Grew.refl _ _, rfl⟩
              · rintro w1 hC hB h10
                rw [h10]
                have hg := hB (by simp)
                have q0 := (blk_cell hg 0).trans rfl
                have q1 := (blk_cell hg 1).trans rfl
                have q2 := (blk_cell hg 2).trans rfl
                clear hg hB
                go_wp2_with fail
                exact ⟨_, rfl, Grew.refl _ _, rfl⟩
              · rintro w1 hC _ h1
                rw [h1]
                go_wp2_with fail
                exact ⟨_, rfl, Grew.refl _ _, rfl⟩
              · rintro w1 hC hB ⟨h7, h12⟩
                rw [h7, h12]
                have hg := hB (by simp)
                have HG := Lib.hid hg
                have q0 := (blk_cell hg 0).trans rfl
                have q1 := (blk_cell hg 1).trans rfl
                have q2 := (blk_cell hg 2).trans rfl
                have f0 := blk_free hg 0
                have f1 := blk_free hg 1
                have f2 := blk_free hg 2
                clear hg hB
                go_wp2_with fail
                exact ⟨undef, rfl, (grew3 w1 g (.int .i64 yk) (.int .i64 yn) (.slice yA yl yc)).mono fun k _ e => by first | exact e | exact ⟨rfl, e⟩ | exact ⟨trivial, e⟩, (blk_set (blk_set (blk_set HG.out 0 _) 1 _) 2 _).trans (by simp)⟩
            · intro vals w1 hC hv
              have x0 : vals 0 = .pointer (some ⟨w.heap.size + 1 + 1, 2, none⟩) := hv 0 (by omega)
              have x1 : vals 1 = .slice (some ⟨g, 0, none⟩) 2 cl := hv 1 (by omega)
              have x2 : vals 2 = .pointer (some ⟨w.heap.size + 1 + 1, 2, none⟩) := hv 2 (by omega)
              have x3 : vals 3 = .slice (some ⟨g, 0, none⟩) 2 cl := hv 3 (by omega)
              have x4 : vals 4 = .pointer (some ⟨w.heap.size + 1 + 1, 2, none⟩) := hv 4 (by omega)
              have x5 : vals 5 = .slice (some ⟨g, 0, none⟩) 2 cl := hv 5 (by omega)
              have x6 : vals 6 = .pointer (some ⟨g, 3, none⟩) := hv 6 (by omega)
              have x7 : vals 7 = .agg #[.int .i64 yk, .int .i64 yn, .slice yA yl yc] := hv 7 (by omega)
              have x8 : vals 8 = .pointer (some ⟨w.heap.size + 1 + 1, 2, none⟩) := hv 8 (by omega)
              have x9 : vals 9 = .slice (some ⟨g, 0, none⟩) 2 cl := hv 9 (by omega)
              have x10 : vals 10 = .pointer (some ⟨g, 0, none⟩) := hv 10 (by omega)
              have x11 : vals 11 = .agg #[.int .i64 xk, .int .i64 xn, .slice xA xl xc] := hv 11 (by omega)
              have x12 : vals 12 = .pointer (some ⟨g, 0, none⟩) := hv 12 (by omega)
              have hmid := hv 13 (by omega)
              simp only [List.take_succ_cons, List.take_zero, List.drop_succ_cons, List.drop_zero, List.drop_nil, lexA, Act.put, List.setIfInBounds_toArray, List.set_cons_zero, List.set_cons_succ, Nat.zero_add, Nat.reduceAdd, x0, x1, x2, x3, x4, x5, x6, x7, x8, x9, x10, x11, x12]
              clear x0 x1 x2 x3 x4 x5 x6 x7 x8 x9 x10 x11 x12 hv
              have hmid2 : w1.heap[g]? = some (.cells (.int .i64 yk :: .int .i64 yn :: .slice yA yl yc :: .int .i64 yk :: .int .i64 yn :: .slice yA yl yc :: tail).toArray 25 (0, 0)) := hmid
              have HMID := Lib.hid hmid2
              have HC1' := Lib.hid hC
              have q3 := (blk_cell hmid2 3).trans rfl
              have q4 := (blk_cell hmid2 4).trans rfl
              have q5 := (blk_cell hmid2 5).trans rfl
              have f3 := blk_free hmid2 3
              have f4 := blk_free hmid2 4
              have f5 := blk_free hmid2 5
              have HO3 := Lib.hid (hC.heap HO1.out fun e => hne e)
              have HC3 := Lib.hid (hC.heap HC1.out fun e => hne2 e)
              obtain ⟨y1, y2, y3, _, _, _⟩ := cell3_load HO3.out
              obtain ⟨z0, z1, z2, s0, s1, s2⟩ := cell3_load HC3.out
              clear hmid hmid2 hC
              go_wp2_with fail
              obtain ⟨w4, hw4⟩ : ∃ w4, w4 = ((w1.setCell ⟨g, 3, none⟩ (.int .i64 xk)).setCell ⟨g, 4, none⟩ (.int .i64 xn)).setCell ⟨g, 5, none⟩ (.slice xA xl xc) := ⟨_, rfl⟩
              have hh4 : w4.heap[g]? = some (.cells (.int .i64 yk :: .int .i64 yn :: .slice yA yl yc :: .int .i64 xk :: .int .i64 xn :: .slice xA xl xc :: tail).toArray 25 (0, 0)) := by
                rw [hw4]; exact (blk_set (blk_set (blk_set HMID.out 3 _) 4 _) 5 _).trans (by simp)
              have hg4 : Grew (fun b => b = g) wx w4 := by
                rw [hw4]; exact HC1'.out.trans ((((Grew.refl (fun b => b = g) w1).setCell (j := 3) rfl _).setCell (j := 4) rfl _).setCell (j := 5) rfl _)
              have hots := HSW2.out w4 hh4 hg4
              have hr0 := (Grew.heap hg4 HC1.out fun e => hne2 e)
              obtain ⟨z0', z1', z2', _, _, _⟩ := cell3_load hr0
              rw [← hw4]
              refine bodyPost_ret (v := .agg #[.int .i64 k, .int .i64 n, .slice (some ⟨g, 0, none⟩) 2 cl]) (by simp [results, Tryd.results18, go_sem, z0', z1', z2']) rfl ⟨_, rfl, ?_, ?_⟩
              · have hg : Grew (fun b => b = w.heap.size + 1) w4 _ := ((((Grew.refl (fun b => b = w.heap.size + 1) w4).setCell (j := 0) rfl (.int .i64 k)).setCell (j := 1) rfl (.int .i64 n)).setCell (j := 2) rfl (.slice (some ⟨g, 0, none⟩) 2 cl))
                rw [HE.out, turn_gt hk8' HGT.out]
                exact TR.of hk hn ((hots.grew hg fun b hb => by omega).ts.mono fun b hb _ => by omega)
              · exact (((HX.out.trans (hg4.below (HX.out.size) (fun b e => by omega))).setCell (p := ⟨w.heap.size + 1, 0, none⟩) (Nat.le_succ _) _).setCell (p := ⟨w.heap.size + 1, 1, none⟩) (Nat.le_succ _) _).setCell (p := ⟨w.heap.size + 1, 2, none⟩) (Nat.le_succ _) _
          | false =>
            have hgt' : (!Op.bytesLess (txt pp) (txt qq) && !(txt pp == txt qq)) = false := by rw [← bLess_eq]; exact hgt
            have HGT := Lib.hid hgt
            clear hgt
            go_wp2_with fail
            refine wp_region_later wr.heap.size (by kernel_rfl) ?_
            repeat (first | go_big_quiet_step ((go_at_call 28; first | (with_reducible exact later_call (hc0.out _) (Nat.le_refl _)) | (with_reducible exact later_call (hc1.out _) (Nat.le_refl _)))) | quiet_step ((go_at_call 28; first | (with_reducible exact later_call (hc0.out _) (Nat.le_refl _)) | (with_reducible exact later_call (hc1.out _) (Nat.le_refl _)))))
            refine wpQuiet_nil (later_all ?_)
            intro wx hx
            have HWX := Lib.hid hx.size
            have HO1 := Lib.hid ((hx.block _ (by have := HS9.out; omega)).trans HO0.out)
            have HC1 := Lib.hid ((hx.block _ (by have := HS9.out; omega)).trans HC9.out)
            have HOX := Lib.hid (HOW.out.bel hx)
            have HX := Lib.hid (hHB.out.trans (hx.mono hHB.out.size))
            clear hx
            have q1 := (blk_cell HO1.out 0).trans rfl
            have q2 := (blk_cell HO1.out 1).trans rfl
            have q3 := (blk_cell HO1.out 2).trans rfl
            have z0 := (blk_cell HC1.out 0).trans rfl
            have z1 := (blk_cell HC1.out 1).trans rfl
            have z2 := (blk_cell HC1.out 2).trans rfl
            have s0 := blk_free HC1.out 0
            have s1 := blk_free HC1.out 1
            have s2 := blk_free HC1.out 2
            go_wp2_with fail
            refine bodyPost_ret (v := .agg #[.int .i64 k, .int .i64 n, .slice (some ⟨g, o, none⟩) 2 cl]) (by simp [results, Tryd.results18, go_sem, z0, z1, z2]) rfl ⟨_, rfl, ?_, ?_⟩
            · have hg : Grew (fun b => b = w.heap.size + 1) wx _ := ((((Grew.refl (fun b => b = w.heap.size + 1) wx).setCell (j := 0) rfl (.int .i64 k)).setCell (j := 1) rfl (.int .i64 n)).setCell (j := 2) rfl (.slice (some ⟨g, o, none⟩) 2 cl))
              rw [HE.out, turn_le HGT.out]
              exact TR.of hk hn ((HOX.out.grew hg fun b hb => by omega).ts.mono fun b hb _ => by omega)
            · exact ((HX.out.setCell (p := ⟨w.heap.size + 1, 0, none⟩) (Nat.le_succ _) _).setCell (p := ⟨w.heap.size + 1, 1, none⟩) (Nat.le_succ _) _).setCell (p := ⟨w.heap.size + 1, 2, none⟩) (Nat.le_succ _) _
        · have hk8' : (k == 8) = false := by simpa using hk8
          clear hk8
          obtain ⟨al, cl, rfl, hcl1, hcl2⟩ := hown.out.form
          have q0 : ∀ x : Later wr.heap.size wr, x.w.cell? ⟨w.heap.size + 1 + 1, 0, none⟩ = some (.int .i64 k) := fun x => x.cell ((blk_cell HOK.out 0).trans rfl) (by have := HS9.out; simp; omega)
          go_wp2_with fail
          refine wp_region_later wr.heap.size (by kernel_rfl) ?_
          repeat (first | go_big_quiet_step (fail) | quiet_step (fail))
          refine wpQuiet_nil (later_all ?_)
          intro wx hx
          have hwx := hx.size
          have hO1 := (hx.block _ (by have := HS9.out; omega)).trans hO.out
          have hC1 := (hx.block _ (by have := HS9.out; omega)).trans HC9.out
          have q1 := (blk_cell hO1 0).trans rfl
          have q2 := (blk_cell hO1 1).trans rfl
          have q3 := (blk_cell hO1 2).trans rfl
          have r0 := (blk_cell hC1 0).trans rfl
          have r1 := (blk_cell hC1 1).trans rfl
          have r2 := (blk_cell hC1 2).trans rfl
          have s0 := blk_free hC1 0
          have s1 := blk_free hC1 1
          have s2 := blk_free hC1 2
          have HO1 := Lib.hid hO1
          have HC1 := Lib.hid hC1
          have HX := Lib.hid hx
          clear hC1 hO1 hx
          go_wp2_with fail
          refine bodyPost_ret (v := .agg #[.int .i64 k, .int .i64 n, .slice al (ordL args).length cl]) (by simp [results, Tryd.results18, go_sem, r0, r1, r2]) rfl ⟨_, rfl, ?_, ?_⟩
          · have ho : OTS wx (w.heap.size + 1 + 1 + 1) (ordL args) (.slice al (ordL args).length cl) := hown.out.bel HX.out
            have hg : Grew (fun b => b = w.heap.size + 1) wx _ := ((((Grew.refl (fun b => b = w.heap.size + 1) wx).setCell (j := 0) rfl (.int .i64 k)).setCell (j := 1) rfl (.int .i64 n)).setCell (j := 2) rfl (.slice al (ordL args).length cl))
            rw [ord, turn_ne (by simpa using hk8')]
            exact TR.of hk hn ((ho.grew hg fun b hb => by omega).ts.mono fun b hb _ => by omega)
          · have hb9 := hHB.out.trans (HX.out.mono hHB.out.size)
            exact ((hb9.setCell (p := ⟨w.heap.size + 1, 0, none⟩) (Nat.le_succ _) _).setCell (p := ⟨w.heap.size + 1, 1, none⟩) (Nat.le_succ _) _).setCell (p := ⟨w.heap.size + 1, 2, none⟩) (Nat.le_succ _) _
end Go.Proofs.YtfhpnkmhppfeiaaDoor
