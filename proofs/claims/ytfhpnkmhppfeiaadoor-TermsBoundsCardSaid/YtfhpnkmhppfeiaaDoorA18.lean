/- learn. -/
import Derived.Test.YtfhpnkmhppfeiaaDoorA17
set_option linter.unusedVariables false
set_option linter.unusedSimpArgs false
namespace Go.Proofs.YtfhpnkmhppfeiaaDoor
open Go.RowKit Go.Proofs
/-- What the first loop has laid. -/
structure LK (w : World) (L : List Tm) (m b : Nat) (j : Nat) (ts : List Tm) (w' : World) : Prop where
  fm : FormsAt w' m
  km : KM w' (fun k => w.heap.size ≤ k ∧ k ≠ b) b ts
  part : Part L ts
  base : ∀ i t, i < j → L[i]? = some t → ord t ∈ ts
  bel : Below w.heap.size w w'
theorem make56 (w : World) : (Instr.makeMap 56 none).run Tryd.prog w = .ok (.map (some w.heap.size)) (w.alloc (.map #[] 0)) := by
  simp [Instr.makeMap, go_sem]
set_option maxRecDepth 100000 in
set_option maxHeartbeats 4000000 in
theorem learn_any (L : List Tm) (v : Value) (w : World) (hL : mayL L = true) (hT : TS w Any L v) (hTab : Tab w) : Calls Tryd.prog 38 #[v] w (LR w L) := by
  obtain ⟨A, c, rfl, hc1, hc2⟩ := hT.form
  have HT := Lib.hid hT
  have HTab := Lib.hid hTab
  have HL := Lib.hid hL
  have HM := Lib.hid (mayL_iff.1 hL).2
  have hfo := forms_any w
  clear hT hTab hL
  go_enter Tryd.func38, Tryd.ntmps38
  go_wp2_with fail
  refine wp_scope_jumps 0 (LJ w L A c) (Lmu L) (by rfl) ?first ?pass
  case pass =>
    intro a w' hJ
    exact wp_seq (wp_skip (learn_pass w L A c HL.out HTab.out a w' hJ))
  case first =>
    have hmk := make56
    go_wp2_with (go_at_call 41; refine hfo.mono ?_; rintro e W1 ⟨rfl, hF, hb⟩)
    clear hmk
    obtain ⟨m, hm⟩ : ∃ m, m = w.heap.size := ⟨_, rfl⟩
    rw [← hm] at hF ⊢
    obtain ⟨b, hbb⟩ : ∃ b, b = W1.heap.size := ⟨_, rfl⟩
    rw [← hbb]
    obtain ⟨W2, hW2⟩ : ∃ W2, W2 = W1.alloc (.map #[] 0) := ⟨_, rfl⟩
    rw [← hW2]
    have hml := hF.lt
    have HNE : Hid (m ≠ b) := fun e => by omega
    have HK0 : Hid (LK w L m b 0 [] W2) := by
      rw [hW2]
      exact ⟨hF.bel (bself W1 _), ⟨fun _ h => by simp at h, #[], 0, hbb ▸ heap_alloc_new W1 _, trivial, by simp, by simp⟩, Part.nil L, fun i t hi => by omega, bthen hb (bself W1 _)⟩
    have HMB : Hid (w.heap.size ≤ m ∧ w.heap.size ≤ b) := ⟨by omega, by have := hb.size; omega⟩
    have HMM := Lib.hid hm
    have HBBB := Lib.hid hbb
    clear hW2 hF hfo hb hm hbb hml
    go_loopw [17] (fun i wr => ∃ (j : Nat) (ts : List Tm), i = .int .i64 j ∧ j ≤ L.length ∧ Hid (LK w L m b j ts wr)) (fun i _ => L.length - (intOf i).toNat)
    case atStart => exact ⟨0, [], rfl, Nat.zero_le _, HK0⟩
    case round =>
      obtain ⟨j, ts, rfl, hj, HK⟩ := hrel
      by_cases hlt : j < L.length
      · obtain ⟨a, ha⟩ : ∃ a, L[j]? = some a := ⟨_, List.getElem?_eq_getElem hlt⟩
        obtain ⟨bb, o, A2, cc', rfl, _, hbs, c0, c1, c2, hTa⟩ := HT.out.at_ ha
        have d0 := (HK.out.bel.cell (p := ⟨bb, o + j * 3, none⟩) hbs).trans c0
        have d1 := (HK.out.bel.cell (p := ⟨bb, o + j * 3 + 1, none⟩) hbs).trans c1
        have d2 := (HK.out.bel.cell (p := ⟨bb, o + j * 3 + 2, none⟩) hbs).trans c2
        have HAA := Lib.hid ha
        have hma := (may_iff a).1 (HM.out a (List.mem_of_getElem? ha))
        have HGO := Lib.hid (good_ord (HM.out a (List.mem_of_getElem? ha)))
        have HBA : Hid (Below w.heap.size w (wr.alloc (.cells #[.int .i64 a.k, .int .i64 a.n, .slice A2 a.args.length cc'] 25))) := bthen HK.out.bel (bself wr _)
        have hor := order_any _ a _ m (wr.alloc (.cells #[.int .i64 a.k, .int .i64 a.n, .slice A2 a.args.length cc'] 25)) (Nat.le_refl _) hma.1 hma.2 (hTa.bel HBA.out) (HK.out.fm.bel (bself wr _)) (HTab.out.bel HBA.out)
        clear ha c0 c1 c2 hTa hma
        go_wp2_with (go_at_call 40; refine hor.mono ?_; rintro e w4 ⟨v4, rfl, hT4, hb4⟩; obtain ⟨A5, c5, rfl⟩ := hT4.form3; have HT4 := Lib.hid hT4; have HB4 := Lib.hid hb4; clear hT4 hb4)
        clear hor
        obtain ⟨W5, hW5⟩ : ∃ W5, W5 = w4.alloc (.cells #[.int .i64 (ord a).k, .int .i64 (ord a).n, .slice A5 (ord a).args.length c5] 25) := ⟨_, rfl⟩
        rw [← hW5]
        have HO5 : Hid (W5.heap[w4.heap.size]? = some (.cells #[.int .i64 (ord a).k, .int .i64 (ord a).n, .slice A5 (ord a).args.length c5] 25 (0, 0))) := by rw [hW5]; exact heap_alloc_new _ _
        have HB5 : Hid (Below wr.heap.size wr W5) := by rw [hW5]; exact bthen (bthen (bself wr _) HB4.out) (bself w4 _)
        have HKM5 : Hid (KM W5 (fun k => w.heap.size ≤ k ∧ k ≠ b) b ts) := HK.out.km.bel HB5.out
        have HT5 : Hid (TR W5 (fun k => w.heap.size ≤ k ∧ k ≠ b) (ord a) (.agg #[.int .i64 (ord a).k, .int .i64 (ord a).n, .slice A5 (ord a).args.length c5])) := by
          have h1 : TR W5 (fun k => (wr.alloc (.cells #[.int .i64 a.k, .int .i64 a.n, .slice A2 a.args.length cc'] 25)).heap.size ≤ k) (ord a) (.agg #[.int .i64 (ord a).k, .int .i64 (ord a).n, .slice A5 (ord a).args.length c5]) := by rw [hW5]; exact HT4.out.bel (bself w4 _)
          refine h1.mono fun k hk _ => ?_
          rw [World.size_alloc] at hk
          have := HK.out.bel.size
          have := HK.out.km.lt
          exact ⟨by omega, by omega⟩
        have HFM5 : Hid (FormsAt W5 m) := HK.out.fm.bel HB5.out
        have HTAB5 : Hid (Tab W5) := HTab.out.bel (bthen HK.out.bel HB5.out)
        clear hW5
        go_wp2_with fail
        refine wp_region_post 5 (R := fun _ => Grew None_) (B := fun _ _ => True) (C := Grew (None_) W5)
          [fun v _ => v = .map (some b),
            fun v _ => v = .agg #[.int .i64 (ord a).k, .int .i64 (ord a).n, .slice A5 (ord a).args.length c5],
            fun v _ => v = .map (some m),
            fun v _ => v = .string ⟨(txt (ord a)).toArray⟩,
            fun v _ => v = .agg #[.int .i64 (ord a).k, .int .i64 (ord a).n, .slice A5 (ord a).args.length c5]]
          [[], [], [], [1, 2], []] (by kernel_rfl) (by kernel_rfl) (by kernel_rfl) (fun _ _ _ _ h h' => h.trans h') ?_ (fun _ _ _ _ _ _ _ _ _ _ _ => trivial) (Grew.drew _ _) (fun _ _ => trivial) ?_ ?_
        · intro i j v w1 w2 _ _ _ hg
          refine lasts ?_ j v
          simp only [List.forall_mem_cons, List.not_mem_nil, false_implies, implies_true, and_true]
          refine ⟨fun _ h => h, fun _ h => h, fun _ h => h, fun _ h => h, fun _ h => h⟩
        · intro vals
          simp only [List.take_succ_cons, List.take_zero, Steps_, List.headD_cons, List.tail_cons, List.forall_mem_cons, List.not_mem_nil, false_implies, implies_true, and_true, List.getD_cons_zero, List.getD_cons_succ, Act.put, List.setIfInBounds_toArray, List.set_cons_zero, List.set_cons_succ, Nat.zero_add, Nat.reduceAdd]
          refine ⟨?_, ?_, ?_, ?_, ?_⟩
          · rintro w1 hC _ _
            go_wp2_with fail
            exact ⟨_, rfl, Grew.refl _ _, rfl⟩
          · rintro w1 hC _ _
            obtain ⟨q0, q1, q2, _, _, _⟩ := cell3_load (hC.heap HO5.out fun h => h.elim)
            go_wp2_with fail
            exact ⟨_, rfl, Grew.refl _ _, rfl⟩
          · rintro w1 hC _ _
            go_wp2_with fail
            exact ⟨_, rfl, Grew.refl _ _, rfl⟩
          · rintro w1 hC _ ⟨h1, h2⟩
            rw [h1, h2]
            have hbw5 := hC.all
            have htx := text_any _ (ord a) _ m w1 (Nat.le_refl _) HGO.out.1 HGO.out.2.1 ((HT5.out.bel hbw5).any) (HFM5.out.bel hbw5) (HTAB5.out.bel hbw5)
            clear hbw5
            go_wp2_with (go_at_call 50; refine htx.mono ?_; rintro e w2 ⟨rfl, hb2⟩)
            exact ⟨_, rfl, Grew.of_below hb2, rfl⟩
          · rintro w1 hC _ _
            obtain ⟨q0, q1, q2, _, _, _⟩ := cell3_load (hC.heap HO5.out fun h => h.elim)
            go_wp2_with fail
            exact ⟨_, rfl, Grew.refl _ _, rfl⟩
        · intro vals w1 hC hv
          have x0 : vals 0 = .map (some b) := hv 0 (by omega)
          have x1 : vals 1 = .agg #[.int .i64 (ord a).k, .int .i64 (ord a).n, .slice A5 (ord a).args.length c5] := hv 1 (by omega)
          have x2 : vals 2 = .map (some m) := hv 2 (by omega)
          have x3 : vals 3 = .string ⟨(txt (ord a)).toArray⟩ := hv 3 (by omega)
          have x4 : vals 4 = .agg #[.int .i64 (ord a).k, .int .i64 (ord a).n, .slice A5 (ord a).args.length c5] := hv 4 (by omega)
          simp only [List.take_succ_cons, List.take_zero, List.drop_succ_cons, List.drop_zero, List.drop_nil, lexA, Act.put, List.setIfInBounds_toArray, List.set_cons_zero, List.set_cons_succ, Nat.zero_add, Nat.reduceAdd, x0, x1, x2, x3, x4]
          clear x0 x1 x2 x3 x4 hv
          obtain ⟨w5, hput, hkm5, hg5⟩ := put_K (HKM5.out.bel hC.all) HGO.out (HT5.out.bel hC.all) (fun h => h.2 rfl)
          have HKMN := Lib.hid hkm5
          have HG5 := Lib.hid hg5
          have HC5 := Lib.hid hC.all
          clear hkm5 hg5 hC
          go_wp2_with (at_mapUpdate; refine wpList_put rfl _ _ _ rfl rfl rfl rfl rfl hput ?_)
          go_roundw
          case rel =>
            have hb1 : Below w.heap.size w w1 := bthen (bthen HK.out.bel HB5.out) HC5.out
            refine ⟨j + 1, kput ts (ord a), by go_num, by omega, ⟨HG5.out.heap (HFM5.out.bel HC5.out) HNE.out, HKMN.out, HK.out.part.put HGO.out ((Know.closed L).base a (List.mem_of_getElem? HAA.out)), fun i t hi ht => ?_, hb1.trans (HG5.out.below hb1.size fun k e => e ▸ HMB.out.2)⟩⟩
            rcases Nat.lt_or_ge i j with h | h
            · exact kput_old (HK.out.base i t h ht)
            · obtain rfl : i = j := by omega
              rw [HAA.out] at ht
              cases ht
              exact kput_new (fun t ht => (HK.out.part.good t ht).1) HGO.out.1
          case measure => simp [intOf]; omega
      · obtain rfl : j = L.length := by omega
        go_wp2_with fail
        refine wp_label ?_
        rename_i K hK
        refine hK _ _ (wp_mono (learn_pass w L A c HL.out HTab.out _ wr ⟨m, b, ts, _, _, _, _, _, _, _, _, _, _, _, _, _, _, _, _, _, _, _, _, _, _, _, _, _, _, _, _, _, _, _, _, _, _, _, _, _, _, _, _, _, _, _, _, _, _, _, _, _, _, _, _, _, _, _, _, rfl, ⟨HK.out.fm, HK.out.km, HK.out.part, fun t ht => ?_, HMB.out.1, HMB.out.2, HNE.out, HK.out.bel⟩⟩) ?_)
        · obtain ⟨i, hi⟩ := List.getElem?_of_mem ht
          exact HK.out.base i t (List.getElem?_eq_some_iff.1 hi).1 hi
        · intro e a w h
          cases e <;> first | exact h | exact ⟨h.1, h.2.1⟩
end Go.Proofs.YtfhpnkmhppfeiaaDoor
