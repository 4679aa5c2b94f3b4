/- terms.Learn. -/
import Derived.Test.YtfhpnkmhppfeiaaDoorA22
import Derived.Test.YtfhpnkmhppfeiaaDoorA19
set_option linter.unusedVariables false
set_option linter.unusedSimpArgs false
namespace Go.Proofs.YtfhpnkmhppfeiaaDoor
open Go.RowKit Go.Proofs
/-- What Learn answers where terms may be known. -/
def LearnT (w : World) (L : List Tm) (e : Ending) (w' : World) : Prop :=
  ∃ v us ts, e = .returned (.tuple #[v, .int .i64 0]) ∧ TS w' Any us v ∧ us.Perm ts ∧ Rising us ∧ Learnt L ts ∧ ts.Nodup ∧ ts.length ≤ (univ L).length ∧ Below w.heap.size w w'
set_option maxRecDepth 100000 in
set_option maxHeartbeats 1000000 in
theorem Learn_no (L : List Tm) (v : Value) (w : World) (hL : mayL L = false) (hT : TS w Any L v) :
    Calls Tryd.prog 24 #[v] w fun e w' => e = .returned (.tuple #[.slice none 0 0, .int .i64 2]) ∧ Below w.heap.size w w' := by
  have hm := mays_any L v w hT
  rw [hL] at hm
  go_enter Tryd.func24, Tryd.ntmps24
  go_wp2_with (go_at_call 37; refine hm.mono ?_; rintro e w1 ⟨rfl, hb⟩; have HB := Lib.hid hb; clear hb)
  exact bodyPost_ret (v := .tuple #[.slice none 0 0, .int .i64 2]) (by simp [results, Tryd.results24, go_sem]) rfl ⟨rfl, HB.out⟩
theorem str_row {w : World} {base : Nat} {v : Value} {l : List Bs} (h : w.ownsRow base 9 1 v l.length (strs l)) : ∃ A c, v = .slice A l.length c ∧ l.length ≤ c ∧ ∀ j s, l[j]? = some s → ∃ g, A = some ⟨g, 0, none⟩ ∧ base ≤ g ∧ g < w.heap.size ∧ w.cell? ⟨g, j, none⟩ = some (.string ⟨s.toArray⟩) := by
  rcases h.2 with ⟨rfl, hn⟩ | ⟨g, cap, cur, rfl, hb, hh, hc1, hc2, _⟩
  · have : l = [] := List.length_eq_zero_iff.1 hn
    subst this
    exact ⟨none, 0, rfl, Nat.le_refl _, fun j s h => by simp at h⟩
  · refine ⟨_, cap, rfl, hc1, fun j s hj => ⟨g, rfl, hb, (Array.getElem?_eq_some_iff.1 hh).1, ?_⟩⟩
    have := h.cells (g := g) rfl j (.string ⟨s.toArray⟩) (by rw [strs, List.getElem?_map, hj]; rfl)
    rwa [addr_add] at this
set_option maxRecDepth 100000 in
set_option maxHeartbeats 4000000 in
theorem Learn_any (L : List Tm) (v : Value) (w : World) (hL : mayL L = true) (hT : TS w Any L v) (hTab : Tab w) : Calls Tryd.prog 24 #[v] w (LearnT w L) := by
  have hm := mays_any L v w hT
  rw [hL] at hm
  have HLE : Hid (∀ w1, Below w.heap.size w w1 → Calls Tryd.prog 38 #[v] w1 (LR2 w1 L)) := fun w1 hb => learn_any2 L v w1 hL (hT.bel hb) (hTab.bel hb)
  have HTab := Lib.hid hTab
  have HU := Lib.hid (univ_len hL)
  have HML := Lib.hid hL
  clear hT hTab hL
  obtain ⟨i0, hi, hz0, hz1, hz2⟩ := info_parts info25
  go_enter Tryd.func24, Tryd.ntmps24
  go_wp2_with (first
    | (go_at_call 37; refine hm.mono ?_; clear hm; rintro e w1 ⟨rfl, hb⟩; have HB1 := Lib.hid hb; clear hb)
    | (go_at_call 38; refine (HLE.out _ HB1.out).mono ?_; rintro e w2 ⟨b, ts, rfl, hbb, hkm, hle, hnd, hb⟩; have HB2 := Lib.hid (bthen HB1.out hb); have HK2 := Lib.hid hkm; have HLE2 := Lib.hid hle; have HND := Lib.hid hnd; have HLN := Lib.hid (nodup_len _ _ hnd fun t ht => (by obtain ⟨u, hu, hs⟩ := (hle.know t ht).sub; exact List.mem_flatMap.2 ⟨u, hu, hs⟩) : ts.length ≤ (univ L).length); clear hkm hle hnd hb)
    | (go_at_call 44; refine (keys_any b w2).mono ?_; rintro e w3 ⟨rfl, rfl⟩)
    | (go_at_call 43; refine (sorted_any w2 HK2.out HND.out (by have := HLN.out; have := HU.out; omega)).mono ?_; rintro e w4 ⟨vs, us, rfl, hpm, hri, hrow, hb⟩; obtain ⟨As, cs, rfl, hcs, hat⟩ := str_row (l := us.map txt) (by simpa using hrow); have HPM := Lib.hid hpm; have HRI := Lib.hid hri; have HAT := Lib.hid hat; have HB4 := Lib.hid hb; clear hpm hri hrow hat hb))
  have hus : us.length = (us.map txt).length := by simp
  have HUL := Lib.hid (show us.length ≤ 1000000 by rw [HPM.out.length_eq]; have := HLN.out; have := HU.out; omega)
  simp only [List.length_map] at hcs ⊢
  have HK4 := Lib.hid (HK2.out.bel HB4.out)
  have HBW := Lib.hid (bthen HB2.out HB4.out)
  have HGD := Lib.hid (fun t (ht : t ∈ us) => HK2.out.1 t (HPM.out.subset ht))
  have HMEM := Lib.hid (fun t (ht : t ∈ us) => HPM.out.subset ht)
  clear hus
  go_loopw [5, 17] (fun l i wr => ∃ (j : Nat), i = .int .i64 j ∧ j ≤ us.length ∧ Hid (OTS wr w4.heap.size (us.take j) l) ∧ Hid (Below w4.heap.size w4 wr)) (fun _ i _ => us.length - (intOf i).toNat)
  case atStart => exact ⟨0, rfl, Nat.zero_le _, OTS.nil _ _, Below.refl _ _⟩
  case round =>
    obtain ⟨j, rfl, hj, HO, HB⟩ := hrel
    obtain ⟨al, cl, hl, hcl1, hcl2⟩ := HO.out.form
    have HJ := Lib.hid (show (us.take j).length = j by rw [List.length_take]; omega)
    rw [HJ.out] at hl hcl1
    subst hl
    have HTAB := Lib.hid (HTab.out.bel (bthen HBW.out HB.out))
    have HKR := Lib.hid (HK4.out.bel HB.out)
    have hul := HUL.out
    by_cases hlt : j < us.length
    · obtain ⟨a, ha⟩ : ∃ a, us[j]? = some a := ⟨_, List.getElem?_eq_getElem hlt⟩
      obtain ⟨g, rfl, _, hgl, c0⟩ := HAT.out j (txt a) (by rw [List.getElem?_map, ha]; rfl)
      have d0 := (HB.out.cell (p := ⟨g, j, none⟩) hgl).trans c0
      have hga := HGD.out a (List.mem_of_getElem? ha)
      obtain ⟨xv, hlf, _, hlv⟩ := look_K HKR.out (txt a)
      have hxa : TR wr Any a xv := by
        rcases hlv with ⟨h, _⟩ | ⟨_, t, ht, hs, hv⟩
        · rw [(hasT_iff (fun t ht => (HKR.out.1 t ht).1) hga.1).2 (HMEM.out a (List.mem_of_getElem? ha))] at h; cases h
        · rw [← txt_inj (HKR.out.1 t ht).1 hga.1 hs]; exact hv.any
      obtain ⟨Ax, cx, rfl⟩ := hxa.form3
      have HAA := Lib.hid ha
      have HGA := Lib.hid hga
      have HXA := Lib.hid hxa
      have HLF := Lib.hid hlf
      clear ha hga hlv hlf hxa c0
      have hbl := HKR.out.lt
      go_wp2_with fail
      have HO5 := Lib.hid HO.out
      clear HO
      refine wp_region_post 7 (R := fun _ => Grew None_) (B := fun _ _ => True) (C := Grew (None_) wr)
        [fun v _ => v = .slice al j cl,
          fun v _ => v = .map (some b),
          fun v _ => v = .string ⟨(txt a).toArray⟩,
          fun v _ => v = .agg #[.int .i64 a.k, .int .i64 a.n, .slice Ax a.args.length cx],
          fun v w' => ∃ m, v = .map (some m) ∧ FormsAt w' m,
          fun v w' => TR w' (fun b => wr.heap.size ≤ b) a v,
          fun v w' => ∃ g d0 d1 d2, v = .slice (some ⟨g, 0, none⟩) 1 1 ∧ wr.heap.size ≤ g ∧ w'.heap[g]? = some (.cells #[d0, d1, d2] 25 (0, 0)) ∧ TR w' (fun b => wr.heap.size ≤ b) a (.agg #[d0, d1, d2])]
        [[], [], [], [1, 2], [], [3, 4], [5]] (by kernel_rfl) (by kernel_rfl) (by kernel_rfl) (fun _ _ _ _ h h' => h.trans h') ?_ (fun _ _ _ _ _ _ _ _ _ _ _ => trivial) (Grew.drew _ _) (fun _ _ => trivial) ?_ ?_
      · intro i j v w1 w2 _ _ _ hg
        refine lasts ?_ j v
        simp only [List.forall_mem_cons, List.not_mem_nil, false_implies, implies_true, and_true]
        refine ⟨fun _ h => h, fun _ h => h, fun _ h => h, fun _ h => h, fun _ ⟨m, e, h⟩ => ⟨m, e, h.bel hg.all⟩, fun _ h => h.grew hg fun _ _ h => h.elim, fun _ ⟨g, d0, d1, d2, e, h1, h2, h3⟩ => ⟨g, d0, d1, d2, e, h1, hg.heap h2 fun h => h.elim, h3.grew hg fun _ _ h => h.elim⟩⟩
      · intro vals
        simp only [List.take_succ_cons, List.take_zero, Steps_, List.headD_cons, List.tail_cons, List.forall_mem_cons, List.not_mem_nil, false_implies, implies_true, and_true, List.getD_cons_zero, List.getD_cons_succ, Act.put, List.setIfInBounds_toArray, List.set_cons_zero, List.set_cons_succ, Nat.zero_add, Nat.reduceAdd]
        refine ⟨?_, ?_, ?_, ?_, ?_, ?_, ?_⟩
        · rintro w1 hC _ _
          go_wp2_with fail
          exact ⟨_, rfl, Grew.refl _ _, rfl⟩
        · rintro w1 hC _ _
          go_wp2_with fail
          exact ⟨_, rfl, Grew.refl _ _, rfl⟩
        · rintro w1 hC _ _
          go_wp2_with fail
          exact ⟨_, rfl, Grew.refl _ _, rfl⟩
        · rintro w1 hC _ ⟨h1, h2⟩
          rw [h1, h2]
          have hlk := HLF.out w1 (hC.all.block b hbl)
          go_wp2_with (at_lookup; refine wpList_look rfl _ _ false rfl rfl rfl hlk ?_)
          exact ⟨_, rfl, Grew.refl _ _, rfl⟩
        · rintro w1 hC _ _
          go_wp2_with (go_at_call 41; refine (forms_any w1).mono ?_; rintro e w2 ⟨rfl, hf, hb⟩; have HF2 := Lib.hid hf; have HB2 := Lib.hid hb; clear hf hb)
          exact ⟨_, rfl, Grew.of_below HB2.out, _, rfl, HF2.out⟩
        · rintro w1 hC _ ⟨h3, m, h4, hf⟩
          rw [h3, h4]
          have hic := order_any _ a _ m w1 (Nat.le_refl _) HGA.out.1 HGA.out.2.1 (HXA.out.bel hC.all) hf (HTAB.out.bel hC.all)
          have HCS := Lib.hid hC.size
          have HF1 := Lib.hid hf
          rw [HGA.out.2.2] at hic
          clear hf
          go_wp2_with (go_at_call 40; refine hic.mono ?_; rintro e w2 ⟨v2, rfl, hT2, hb2⟩)
          exact ⟨_, rfl, Grew.of_below hb2, hT2.mono fun b hb _ => Nat.le_trans HCS.out hb⟩
        · rintro w1 hC _ h7
          obtain ⟨A4, cc4, e4⟩ := h7.form3
          rw [e4] at h7 ⊢
          have HCS := Lib.hid hC.size
          have H4 := Lib.hid h7
          clear h7
          go_wp2_with fail
          exact ⟨_, rfl, Grew.alloc _ _ _, w1.heap.size, _, _, _, rfl, HCS.out, heap_alloc_new _ _, H4.out.bel (bself _ _)⟩
      · intro vals w1 hC hv
        have x0 : vals 0 = .slice al j cl := hv 0 (by omega)
        have x1 : vals 1 = .map (some b) := hv 1 (by omega)
        have x2 : vals 2 = .string ⟨(txt a).toArray⟩ := hv 2 (by omega)
        have x3 : vals 3 = .agg #[.int .i64 a.k, .int .i64 a.n, .slice Ax a.args.length cx] := hv 3 (by omega)
        generalize hgoal : wpList _ _ _ _ _ _ = G; obtain ⟨g, e0, e1, e2, x6, hg5, hh5, hT5⟩ : ∃ g d0 d1 d2, vals 6 = .slice (some ⟨g, 0, none⟩) 1 1 ∧ wr.heap.size ≤ g ∧ w1.heap[g]? = some (.cells #[d0, d1, d2] 25 (0, 0)) ∧ TR w1 (fun b => wr.heap.size ≤ b) a (.agg #[d0, d1, d2]) := hv 6 (by omega); subst hgoal
        simp only [List.take_succ_cons, List.take_zero, List.drop_succ_cons, List.drop_zero, List.drop_nil, lexA, Act.put, List.setIfInBounds_toArray, List.set_cons_zero, List.set_cons_succ, Nat.zero_add, Nat.reduceAdd, x0, x1, x2, x3, x6]
        clear x0 x1 x2 x3 x6 hv
        have HOW1 := Lib.hid (HO5.out.bel hC.all)
        obtain ⟨cw, hcw, _⟩ := HOW1.out
        have HCS := Lib.hid hcw
        have HT5 := Lib.hid hT5
        have HH5 := Lib.hid hh5
        have HSZ1 := Lib.hid (show w4.heap.size ≤ w1.heap.size ∧ wr.heap.size ≤ w1.heap.size from ⟨Nat.le_trans HB.out.size hC.size, hC.size⟩)
        clear hcw hT5 hh5
        go_wp2_with (at_builtin; refine wpList_append_own_at _ rfl _ _ 22 rfl w4.heap.size 25 i0 _ 3 40 Tryd.underlying22 hi hz0 hz1 hz2 rfl (by decide) (.slice al j cl) _ cw rfl HCS.out ⟨g, 0, none⟩ 1 1 [e0, e1, e2] rfl rfl (news3 HH5.out) (one3 HT5.out) ?p1 ?p2 ?p3 ?p4; rotate_right; intro v1 w5 hown2 hg2 _ hloc; have H1 := Lib.hid hown2; have H2 := Lib.hid hg2; have H3 := Lib.hid hloc; clear hown2 hg2 hloc)
        case p1 => rw [HJ.out]; unfold maxLen; omega
        case p2 => rw [HJ.out]; omega
        case p3 => exact HSZ1.out.1
        have hnew := HOW1.out.append HCS.out HT5.out (fun k hk => (HO5.out.base k hk).2) HB.out.size H1.out H2.out H3.out
        have htk : us.take (j + 1) = us.take j ++ [a] := by rw [List.take_add_one, HAA.out]; rfl
        go_roundw
        case rel =>
          refine ⟨j + 1, by go_num, by omega, by unfold Hid; rw [htk]; exact hnew, ?_⟩
          exact Below.grown (bthen HB.out hC.all) H2.out HSZ1.out.1 (fun k hk => (HOW1.out.base k hk).1)
        case measure => simp [intOf]; omega
    · obtain rfl : j = us.length := by omega
      rw [List.take_length] at HO
      have HOK := HO
      go_wp2_with fail
      refine bodyPost_ret (v := .tuple #[.slice al us.length cl, .int .i64 0]) (by simp [results, Tryd.results24, go_sem]) rfl ?_
      exact ⟨_, us, ts, rfl, HOK.out.ts.any, HPM.out, HRI.out, HLE2.out, HND.out, HLN.out, bthen HBW.out HB.out⟩
end Go.Proofs.YtfhpnkmhppfeiaaDoor
