/- learn, once more: no term twice. -/
import Derived.Test.YtfhpnkmhppfeiaaDoorA18
set_option linter.unusedVariables false
set_option linter.unusedSimpArgs false
namespace Go.Proofs.YtfhpnkmhppfeiaaDoor
open Go.RowKit Go.Proofs
def LR2 (w : World) (L : List Tm) (e : Ending) (w' : World) : Prop := ∃ b ts, e = .returned (.map (some b)) ∧ w.heap.size ≤ b ∧ KM w' (fun k => w.heap.size ≤ k ∧ k ≠ b) b ts ∧ Learnt L ts ∧ ts.Nodup ∧ Below w.heap.size w w'
set_option maxRecDepth 100000 in
set_option maxHeartbeats 4000000 in
theorem learn_pass2 (w : World) (L : List Tm) (A : Option Addr) (c : Nat) (hL : mayL L = true) (hTab : Tab w) (a : Act) (w' : World) (hJ : LJ w L A c a w') :
    learnR.wp Tryd.prog (Exit.jump 0 (fun a2 w2 => LJ w L A c a2 w2 ∧ Lmu L a2 w2 < Lmu L a w') (bodyPost Tryd.prog Tryd.f38 (LR2 w L))) a w' := by
  obtain ⟨m, b, ts, u1, u5, u6, u7, u8, u9, u10, u11, u12, u13, u14, u15, u16, u17, u18, u19, u20, u21, u22, u23, u24, u25, u26, u27, u28, u29, u30, u31, u32, u33, u34, u35, u36, u37, u38, u39, u40, u41, u42, u43, u44, u45, u46, u47, u48, u49, u50, u51, u52, u53, u54, u55, u56, u57, u58, u59, rfl, H⟩ := hJ
  have HMU : Hid (Lmu L { tmps := #[.slice A L.length c, u1, .map none, .map (some m), .map (some b), u5, u6, u7, u8, u9, u10, u11, u12, u13, u14, u15, u16, u17, u18, u19, u20, u21, u22, u23, u24, u25, u26, u27, u28, u29, u30, u31, u32, u33, u34, u35, u36, u37, u38, u39, u40, u41, u42, u43, u44, u45, u46, u47, u48, u49, u50, u51, u52, u53, u54, u55, u56, u57, u58, u59], defers := [] } w' = (univ L).length - ts.length) := by
    obtain ⟨es, cc, h1, h2⟩ := H.out.km.size
    unfold Hid
    show (match w'.heap[b]? with | some (.map es _) => (univ L).length - es.size | _ => 0) = _
    rw [h1]; simp [h2]
  have HLEN := Lib.hid (Part.len H.out.part)
  have HU := Lib.hid (univ_len hL)
  have HTab := Lib.hid hTab
  clear hTab
  have hbl := H.out.km.lt
  have hcol := collect_any (b := b) (Bm := w'.heap.size) (w'.alloc (.cells #[.map (some b)] 56)) (H.out.km.bel (bself w' _)) (by have := HLEN.out; have := HU.out; omega) ((blk_cell (heap_alloc_new w' _) 0).trans rfl)
  rw [HMU.out]
  conv in learnR => whnf
  go_wp2_with (first
    | (go_at_call 58; refine (values_any b _).mono ?_; rintro e w1 ⟨rfl, rfl⟩)
    | (go_at_call 57; refine hcol.mono ?_; rintro e w2 ⟨v, us, rfl, hperm, hTS, hb2⟩; obtain ⟨Au, cu, rfl, hcu1, hcu2⟩ := hTS.form; have HPERM := Lib.hid hperm; have HTS := Lib.hid hTS; have HB2 := Lib.hid (bthen (bself w' _) hb2); have HLU := Lib.hid hperm.length_eq; clear hperm hTS hb2))
  clear hcol
  have hmono : Hid (TS w2 (fun k => w.heap.size ≤ k ∧ k ≠ b) us (.slice Au us.length cu)) := HTS.out.mono fun k hk _ => by
    rcases hk with hk | hk
    · exact hk
    · rw [World.size_alloc] at hk; have := H.out.bel.size; exact ⟨by omega, by omega⟩
  have HS2 := Lib.hid (Nat.le_trans H.out.bel.size HB2.out.size)
  go_loopw [34] (fun i wr => ∃ (j : Nat), i = .int .i64 j ∧ j ≤ us.length ∧ Hid (Below w2.heap.size w2 wr) ∧ Hid (∀ i u, i < j → us[i]? = some u → ∀ a ∈ apartT ts u, a ∈ ts)) (fun i _ => us.length - (intOf i).toNat)
  case atStart => exact ⟨0, rfl, Nat.zero_le _, Below.refl _ _, fun i u hi => by omega⟩
  case round =>
    obtain ⟨j, rfl, hj, HB, HX⟩ := hrel
    by_cases hlt : j < us.length
    · obtain ⟨u, hu⟩ : ∃ u, us[j]? = some u := ⟨_, List.getElem?_eq_getElem hlt⟩
      obtain ⟨bb, o, A2, cc', rfl, _, hbs, c0, c1, c2, hTu⟩ := hmono.out.at_ hu
      have d0 := (HB.out.cell (p := ⟨bb, o + j * 3, none⟩) hbs).trans c0
      have d1 := (HB.out.cell (p := ⟨bb, o + j * 3 + 1, none⟩) hbs).trans c1
      have d2 := (HB.out.cell (p := ⟨bb, o + j * 3 + 2, none⟩) hbs).trans c2
      have HUU := Lib.hid hu
      have hut : u ∈ ts := HPERM.out.subset (List.mem_of_getElem? hu)
      have hgu := H.out.part.good u hut
      have HBA := Lib.hid (bthen (bthen HB2.out HB.out) (bself wr (.cells #[.int .i64 u.k, .int .i64 u.n, .slice A2 u.args.length cc'] 25)))
      have hap := apart_any (b := b) (ts := ts) u _ _ (H.out.km.bel HBA.out) hgu.1 hgu.2.1 ((hTu.bel HB.out).bel (bself wr _)) (HTab.out.bel (bthen H.out.bel HBA.out))
      have HUT := Lib.hid hut
      have HGU := Lib.hid hgu
      clear hu c0 c1 c2 hTu hut hgu
      go_wp2_with (go_at_call 59; refine hap.mono ?_; rintro e w3 ⟨v3, rfl, hT3, hb3⟩; obtain ⟨A3, c3, rfl, hc31, hc32⟩ := hT3.form; have HT3 := Lib.hid hT3; have HB3 := Lib.hid hb3; clear hT3 hb3)
      have hbase3 : Below w.heap.size w w3 := (H.out.bel.trans (HBA.out.mono H.out.bel.size)).trans (HB3.out.mono (Nat.le_trans H.out.bel.size HBA.out.size))
      have HBASE3 := Lib.hid hbase3
      have HW3 : Hid (Below w'.heap.size w' w3) := bthen HBA.out HB3.out
      have HW23 : Hid (Below w2.heap.size w2 w3) := bthen (bthen HB.out (bself wr _)) HB3.out
      clear hbase3
      go_loopw [42] (fun i wr => ∃ (n : Nat), i = .int .i64 n ∧ n ≤ (apartT ts u).length ∧ Hid (Below w3.heap.size w3 wr) ∧ Hid (∀ i a, i < n → (apartT ts u)[i]? = some a → a ∈ ts)) (fun i _ => (apartT ts u).length - (intOf i).toNat)
      case atStart => exact ⟨0, rfl, Nat.zero_le _, Below.refl _ _, fun i u hi => by omega⟩
      case round =>
        rename_i wq _ _
        obtain ⟨n, rfl, hn, HBn, HXn⟩ := hrel
        by_cases hltn : n < (apartT ts u).length
        · obtain ⟨a, ha⟩ : ∃ a, (apartT ts u)[n]? = some a := ⟨_, List.getElem?_eq_getElem hltn⟩
          obtain ⟨b3, o3, A4, c4, rfl, _, hbs3, e0, e1, e2, hTa⟩ := HT3.out.at_ ha
          have g0 := (HBn.out.cell (p := ⟨b3, o3 + n * 3, none⟩) hbs3).trans e0
          have g1 := (HBn.out.cell (p := ⟨b3, o3 + n * 3 + 1, none⟩) hbs3).trans e1
          have g2 := (HBn.out.cell (p := ⟨b3, o3 + n * 3 + 2, none⟩) hbs3).trans e2
          have hka := Know.apart H.out.part.good H.out.part.know HUT.out (List.mem_of_getElem? ha)
          have HAA := Lib.hid ha
          have HKA := Lib.hid hka
          have HTA := Lib.hid (hTa.bel HBn.out)
          have HWr : Hid (Below w'.heap.size w' wr) := bthen HW3.out HBn.out
          have HWa : Hid (Below w'.heap.size w' (wr.alloc (.cells #[.int .i64 a.k, .int .i64 a.n, .slice A4 a.args.length c4] 25))) := bthen HWr.out (bself wr _)
          have htx := text_any _ a _ m (wr.alloc (.cells #[.int .i64 a.k, .int .i64 a.n, .slice A4 a.args.length c4] 25)) (Nat.le_refl _) hka.2.1 hka.2.2.1 ((HTA.out.bel (bself wr _)).any) (H.out.fm.bel HWa.out) (HTab.out.bel (bthen H.out.bel HWa.out))
          obtain ⟨xv, hlf, hlk, hlv⟩ := look_K H.out.km (txt a)
          obtain ⟨xk, xn, xA, xl, xc, rfl, hkind⟩ := look_kind H.out.km.1 hlv
          have lf : ∀ w : World, (Instr.field 25 (.agg #[.int .i64 xk, .int .i64 xn, .slice xA xl xc]) 0).run Tryd.prog w = .ok (.int .i64 xk) w := fun w => field25 _ _ _ _
          have HLF := Lib.hid hlf
          have HWS := Lib.hid (Nat.le_trans H.out.bel.size HWr.out.size)
          clear ha e0 e1 e2 hTa hka hlk hlv hlf
          cases hh : hasT ts (txt a) with
          | true =>
            have HH := Lib.hid hh
            rw [hh] at hkind
            clear hh
            go_wp2_with (first
              | (go_at_call 50; refine htx.mono ?_; rintro e w4 ⟨rfl, hb4⟩; have HB4 := Lib.hid hb4; have hlk := HLF.out w4 ((bthen HWa.out hb4).block b hbl); clear hb4)
              | (at_lookup; refine wpList_look rfl _ _ false rfl rfl rfl hlk ?_))
            go_roundw
            case rel =>
              refine ⟨n + 1, by go_num, by omega, bthen (bthen HBn.out (bself wr _)) HB4.out, fun i q hi hq => ?_⟩
              rcases Nat.lt_or_ge i n with h | h
              · exact HXn.out i q h hq
              · obtain rfl : i = n := by omega
                rw [HAA.out] at hq
                cases hq
                exact (hasT_iff (fun t ht => (H.out.part.good t ht).1) HKA.out.2.1).1 HH.out
            case measure => simp [intOf]; omega
          | false =>
            have HH := Lib.hid hh
            rw [hh] at hkind
            clear hh
            go_wp2_with (first
              | (go_at_call 50; refine htx.mono ?_; rintro e w4 ⟨rfl, hb4⟩; have HB4 := Lib.hid hb4; have hlk := HLF.out w4 ((bthen HWa.out hb4).block b hbl); have HKM4 := Lib.hid (H.out.km.bel (bthen HWa.out hb4)); have hx4 := (hb4.block wr.heap.size (by simp)).trans (heap_alloc_new wr _); obtain ⟨y0, y1, y2, _, _, _⟩ := cell3_load hx4; obtain ⟨w5, hput, hkm5, hg5⟩ := put_K HKM4.out HKA.out.2 ((((HTA.out.bel (bself wr _)).bel hb4))) (fun h => h.2 rfl); have HKM5 := Lib.hid hkm5; have HG5 := Lib.hid hg5; clear hb4 hx4 hkm5 hg5)
              | (at_lookup; refine wpList_look rfl _ _ false rfl rfl rfl hlk ?_)
              | (at_mapUpdate; refine wpList_put rfl _ _ _ rfl rfl rfl rfl rfl hput ?_))
            refine wp_goto (And.intro rfl (And.intro ?_ ?_))
            · refine ⟨m, b, kput ts a, _, _, _, _, _, _, _, _, _, _, _, _, _, _, _, _, _, _, _, _, _, _, _, _, _, _, _, _, _, _, _, _, _, _, _, _, _, _, _, _, _, _, _, _, _, _, _, _, _, _, _, _, _, _, _, _, rfl, ?_⟩
              have hb4 := bthen HWa.out HB4.out
              exact ⟨HG5.out.heap (H.out.fm.bel hb4) H.out.ne, HKM5.out, H.out.part.put HKA.out.2 HKA.out.1, fun t ht => kput_old (H.out.base t ht), H.out.hm, H.out.hb, H.out.ne,
                (H.out.bel.trans (hb4.mono H.out.bel.size)).trans (HG5.out.below (Nat.le_trans H.out.bel.size hb4.size) fun k e => e ▸ H.out.hb)⟩
            · obtain ⟨es, cc, h1, h2⟩ := HKM5.out.size
              show (match w5.heap[b]? with | some (.map es _) => (univ L).length - es.size | _ => 0) < _
              rw [h1]
              have h3 := Part.len (H.out.part.put HKA.out.2 HKA.out.1)
              have h4 : (kput ts a).length = ts.length + 1 := by unfold kput; rw [HH.out]; simp
              simp only [h2]
              omega
        · obtain rfl : n = (apartT ts u).length := by omega
          go_wp2_with fail
          go_roundw
          case rel =>
            refine ⟨j + 1, by go_num, by omega, bthen HW23.out HBn.out, fun i q hi hq a ha => ?_⟩
            rcases Nat.lt_or_ge i j with h | h
            · exact HX.out i q h hq a ha
            · obtain rfl : i = j := by omega
              rw [HUU.out] at hq
              cases hq
              obtain ⟨n, hn⟩ := List.getElem?_of_mem ha
              exact HXn.out n a (List.getElem?_eq_some_iff.1 hn).1 hn
          case measure => simp [intOf]; omega
    · obtain rfl : j = us.length := by omega
      go_wp2_with fail
      change bodyPost Tryd.prog Tryd.f38 (LR2 w L) Exit.ret _ _
      go_ret
      refine ⟨b, ts, rfl, H.out.hb, (H.out.km.bel (bthen HB2.out HB.out)), ⟨H.out.part.good, H.out.base, H.out.part.know, fun t ht a ha => ?_⟩, H.out.part.nodup, H.out.bel.trans ((bthen HB2.out HB.out).mono H.out.bel.size)⟩
      obtain ⟨n, hn⟩ := List.getElem?_of_mem (HPERM.out.symm.subset ht)
      exact HX.out n t (List.getElem?_eq_some_iff.1 hn).1 hn a ha
set_option maxRecDepth 100000 in
set_option maxHeartbeats 4000000 in
theorem learn_any2 (L : List Tm) (v : Value) (w : World) (hL : mayL L = true) (hT : TS w Any L v) (hTab : Tab w) : Calls Tryd.prog 38 #[v] w (LR2 w L) := by
  obtain ⟨A, c, rfl, hc1, hc2⟩ := hT.form
  have HT := Lib.hid hT
  have HTab := Lib.hid hTab
  have HL := Lib.hid hL
  have HM := Lib.hid (mayL_iff.1 hL).2
  have hfo := forms_any w
  clear hT hTab hL
  go_enter Tryd.func38, Tryd.ntmps38
  go_wp2_with fail
  refine wp_scope_jumps 0 (LJ w L A c) (Lmu L) (by rfl) ?first ?pass
  case pass =>
    intro a w' hJ
    exact wp_seq (wp_skip (learn_pass2 w L A c HL.out HTab.out a w' hJ))
  case first =>
    have hmk := make56
    go_wp2_with (go_at_call 41; refine hfo.mono ?_; rintro e W1 ⟨rfl, hF, hb⟩)
    clear hmk
    obtain ⟨m, hm⟩ : ∃ m, m = w.heap.size := ⟨_, rfl⟩
    rw [← hm] at hF ⊢
    obtain ⟨b, hbb⟩ : ∃ b, b = W1.heap.size := ⟨_, rfl⟩
    rw [← hbb]
    obtain ⟨W2, hW2⟩ : ∃ W2, W2 = W1.alloc (.map #[] 0) := ⟨_, rfl⟩
    rw [← hW2]
    have hml := hF.lt
    have HNE : Hid (m ≠ b) := fun e => by omega
    have HK0 : Hid (LK w L m b 0 [] W2) := by
      rw [hW2]
      exact ⟨hF.bel (bself W1 _), ⟨fun _ h => by simp at h, #[], 0, hbb ▸ heap_alloc_new W1 _, trivial, by simp, by simp⟩, Part.nil L, fun i t hi => by omega, bthen hb (bself W1 _)⟩
    have HMB : Hid (w.heap.size ≤ m ∧ w.heap.size ≤ b) := ⟨by omega, by have := hb.size; omega⟩
    have HMM := Lib.hid hm
    have HBBB := Lib.hid hbb
    clear hW2 hF hfo hb hm hbb hml
    go_loopw [17] (fun i wr => ∃ (j : Nat) (ts : List Tm), i = .int .i64 j ∧ j ≤ L.length ∧ Hid (LK w L m b j ts wr)) (fun i _ => L.length - (intOf i).toNat)
    case atStart => exact ⟨0, [], rfl, Nat.zero_le _, HK0⟩
    case round =>
      obtain ⟨j, ts, rfl, hj, HK⟩ := hrel
      by_cases hlt : j < L.length
      · obtain ⟨a, ha⟩ : ∃ a, L[j]? = some a := ⟨_, List.getElem?_eq_getElem hlt⟩
        obtain ⟨bb, o, A2, cc', rfl, _, hbs, c0, c1, c2, hTa⟩ := HT.out.at_ ha
        have d0 := (HK.out.bel.cell (p := ⟨bb, o + j * 3, none⟩) hbs).trans c0
        have d1 := (HK.out.bel.cell (p := ⟨bb, o + j * 3 + 1, none⟩) hbs).trans c1
        have d2 := (HK.out.bel.cell (p := ⟨bb, o + j * 3 + 2, none⟩) hbs).trans c2
        have HAA := Lib.hid ha
        have hma := (may_iff a).1 (HM.out a (List.mem_of_getElem? ha))
        have HGO := Lib.hid (good_ord (HM.out a (List.mem_of_getElem? ha)))
        have HBA : Hid (Below w.heap.size w (wr.alloc (.cells #[.int .i64 a.k, .int .i64 a.n, .slice A2 a.args.length cc'] 25))) := bthen HK.out.bel (bself wr _)
        have hor := order_any _ a _ m (wr.alloc (.cells #[.int .i64 a.k, .int .i64 a.n, .slice A2 a.args.length cc'] 25)) (Nat.le_refl _) hma.1 hma.2 (hTa.bel HBA.out) (HK.out.fm.bel (bself wr _)) (HTab.out.bel HBA.out)
        clear ha c0 c1 c2 hTa hma
        go_wp2_with (go_at_call 40; refine hor.mono ?_; rintro e w4 ⟨v4, rfl, hT4, hb4⟩; obtain ⟨A5, c5, rfl⟩ := hT4.form3; have HT4 := Lib.hid hT4; have HB4 := Lib.hid hb4; clear hT4 hb4)
        clear hor
        obtain ⟨W5, hW5⟩ : ∃ W5, W5 = w4.alloc (.cells #[.int .i64 (ord a).k, .int .i64 (ord a).n, .slice A5 (ord a).args.length c5] 25) := ⟨_, rfl⟩
        rw [← hW5]
        have HO5 : Hid (W5.heap[w4.heap.size]? = some (.cells #[.int .i64 (ord a).k, .int .i64 (ord a).n, .slice A5 (ord a).args.length c5] 25 (0, 0))) := by rw [hW5]; exact heap_alloc_new _ _
        have HB5 : Hid (Below wr.heap.size wr W5) := by rw [hW5]; exact bthen (bthen (bself wr _) HB4.out) (bself w4 _)
        have HKM5 : Hid (KM W5 (fun k => w.heap.size ≤ k ∧ k ≠ b) b ts) := HK.out.km.bel HB5.out
        have HT5 : Hid (TR W5 (fun k => w.heap.size ≤ k ∧ k ≠ b) (ord a) (.agg #[.int .i64 (ord a).k, .int .i64 (ord a).n, .slice A5 (ord a).args.length c5])) := by
          have h1 : TR W5 (fun k => (wr.alloc (.cells #[.int .i64 a.k, .int .i64 a.n, .slice A2 a.args.length cc'] 25)).heap.size ≤ k) (ord a) (.agg #[.int .i64 (ord a).k, .int .i64 (ord a).n, .slice A5 (ord a).args.length c5]) := by rw [hW5]; exact HT4.out.bel (bself w4 _)
          refine h1.mono fun k hk _ => ?_
          rw [World.size_alloc] at hk
          have := HK.out.bel.size
          have := HK.out.km.lt
          exact ⟨by omega, by omega⟩
        have HFM5 : Hid (FormsAt W5 m) := HK.out.fm.bel HB5.out
        have HTAB5 : Hid (Tab W5) := HTab.out.bel (bthen HK.out.bel HB5.out)
        clear hW5
        go_wp2_with fail
        refine wp_region_post 5 (R := fun _ => Grew None_) (B := fun _ _ => True) (C := Grew (None_) W5)
          [fun v _ => v = .map (some b),
            fun v _ => v = .agg #[.int .i64 (ord a).k, .int .i64 (ord a).n, .slice A5 (ord a).args.length c5],
            fun v _ => v = .map (some m),
            fun v _ => v = .string ⟨(txt (ord a)).toArray⟩,
            fun v _ => v = .agg #[.int .i64 (ord a).k, .int .i64 (ord a).n, .slice A5 (ord a).args.length c5]]
          [[], [], [], [1, 2], []] (by kernel_rfl) (by kernel_rfl) (by kernel_rfl) (fun _ _ _ _ h h' => h.trans h') ?_ (fun _ _ _ _ _ _ _ _ _ _ _ => trivial) (Grew.drew _ _) (fun _ _ => trivial) ?_ ?_
        · intro i j v w1 w2 _ _ _ hg
          refine lasts ?_ j v
          simp only [List.forall_mem_cons, List.not_mem_nil, false_implies, implies_true, and_true]
          refine ⟨fun _ h => h, fun _ h => h, fun _ h => h, fun _ h => h, fun _ h => h⟩
        · intro vals
          simp only [List.take_succ_cons, List.take_zero, Steps_, List.headD_cons, List.tail_cons, List.forall_mem_cons, List.not_mem_nil, false_implies, implies_true, and_true, List.getD_cons_zero, List.getD_cons_succ, Act.put, List.setIfInBounds_toArray, List.set_cons_zero, List.set_cons_succ, Nat.zero_add, Nat.reduceAdd]
          refine ⟨?_, ?_, ?_, ?_, ?_⟩
          · rintro w1 hC _ _
            go_wp2_with fail
            exact ⟨_, rfl, Grew.refl _ _, rfl⟩
          · rintro w1 hC _ _
            obtain ⟨q0, q1, q2, _, _, _⟩ := cell3_load (hC.heap HO5.out fun h => h.elim)
            go_wp2_with fail
            exact ⟨_, rfl, Grew.refl _ _, rfl⟩
          · rintro w1 hC _ _
            go_wp2_with fail
            exact ⟨_, rfl, Grew.refl _ _, rfl⟩
          · rintro w1 hC _ ⟨h1, h2⟩
            rw [h1, h2]
            have hbw5 := hC.all
            have htx := text_any _ (ord a) _ m w1 (Nat.le_refl _) HGO.out.1 HGO.out.2.1 ((HT5.out.bel hbw5).any) (HFM5.out.bel hbw5) (HTAB5.out.bel hbw5)
            clear hbw5
            go_wp2_with (go_at_call 50; refine htx.mono ?_; rintro e w2 ⟨rfl, hb2⟩)
            exact ⟨_, rfl, Grew.of_below hb2, rfl⟩
          · rintro w1 hC _ _
            obtain ⟨q0, q1, q2, _, _, _⟩ := cell3_load (hC.heap HO5.out fun h => h.elim)
            go_wp2_with fail
            exact ⟨_, rfl, Grew.refl _ _, rfl⟩
        · intro vals w1 hC hv
          have x0 : vals 0 = .map (some b) := hv 0 (by omega)
          have x1 : vals 1 = .agg #[.int .i64 (ord a).k, .int .i64 (ord a).n, .slice A5 (ord a).args.length c5] := hv 1 (by omega)
          have x2 : vals 2 = .map (some m) := hv 2 (by omega)
          have x3 : vals 3 = .string ⟨(txt (ord a)).toArray⟩ := hv 3 (by omega)
          have x4 : vals 4 = .agg #[.int .i64 (ord a).k, .int .i64 (ord a).n, .slice A5 (ord a).args.length c5] := hv 4 (by omega)
          simp only [List.take_succ_cons, List.take_zero, List.drop_succ_cons, List.drop_zero, List.drop_nil, lexA, Act.put, List.setIfInBounds_toArray, List.set_cons_zero, List.set_cons_succ, Nat.zero_add, Nat.reduceAdd, x0, x1, x2, x3, x4]
          clear x0 x1 x2 x3 x4 hv
          obtain ⟨w5, hput, hkm5, hg5⟩ := put_K (HKM5.out.bel hC.all) HGO.out (HT5.out.bel hC.all) (fun h => h.2 rfl)
          have HKMN := Lib.hid hkm5
          have HG5 := Lib.hid hg5
          have HC5 := Lib.hid hC.all
          clear hkm5 hg5 hC
          go_wp2_with (at_mapUpdate; refine wpList_put rfl _ _ _ rfl rfl rfl rfl rfl hput ?_)
          go_roundw
          case rel =>
            have hb1 : Below w.heap.size w w1 := bthen (bthen HK.out.bel HB5.out) HC5.out
            refine ⟨j + 1, kput ts (ord a), by go_num, by omega, ⟨HG5.out.heap (HFM5.out.bel HC5.out) HNE.out, HKMN.out, HK.out.part.put HGO.out ((Know.closed L).base a (List.mem_of_getElem? HAA.out)), fun i t hi ht => ?_, hb1.trans (HG5.out.below hb1.size fun k e => e ▸ HMB.out.2)⟩⟩
            rcases Nat.lt_or_ge i j with h | h
            · exact kput_old (HK.out.base i t h ht)
            · obtain rfl : i = j := by omega
              rw [HAA.out] at ht
              cases ht
              exact kput_new (fun t ht => (HK.out.part.good t ht).1) HGO.out.1
          case measure => simp [intOf]; omega
      · obtain rfl : j = L.length := by omega
        go_wp2_with fail
        refine wp_label ?_
        rename_i K hK
        refine hK _ _ (wp_mono (learn_pass2 w L A c HL.out HTab.out _ wr ⟨m, b, ts, _, _, _, _, _, _, _, _, _, _, _, _, _, _, _, _, _, _, _, _, _, _, _, _, _, _, _, _, _, _, _, _, _, _, _, _, _, _, _, _, _, _, _, _, _, _, _, _, _, _, _, _, _, _, _, _, rfl, ⟨HK.out.fm, HK.out.km, HK.out.part, fun t ht => ?_, HMB.out.1, HMB.out.2, HNE.out, HK.out.bel⟩⟩) ?_)
        · obtain ⟨i, hi⟩ := List.getElem?_of_mem ht
          exact HK.out.base i t (List.getElem?_eq_some_iff.1 hi).1 hi
        · intro e a w h
          cases e <;> first | exact h | exact ⟨h.1, h.2.1⟩
end Go.Proofs.YtfhpnkmhppfeiaaDoor
