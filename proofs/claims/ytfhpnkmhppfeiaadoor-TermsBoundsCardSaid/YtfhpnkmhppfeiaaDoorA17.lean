/- learn: the rounds behind the label. -/
import Derived.Test.YtfhpnkmhppfeiaaDoorG3
import Derived.ScopeJumps
import Derived.WalkMore
set_option linter.unusedVariables false
set_option linter.unusedSimpArgs false
namespace Go.Proofs.YtfhpnkmhppfeiaaDoor
open Go.RowKit Go.Proofs
/-- learn's text behind its label. -/
noncomputable def learnR : Code :=
  match Tryd.f38.body with
  | some (.seq _ (.scope c)) => (match findLabel c 0 with | some (.seq _ r) => r | _ => .skip)
  | _ => .skip
/-- What holds at the label. -/
structure LJ0 (w : World) (L : List Tm) (m b : Nat) (ts : List Tm) (w' : World) : Prop where
  fm : FormsAt w' m
  km : KM w' (fun k => w.heap.size ≤ k ∧ k ≠ b) b ts
  part : Part L ts
  base : ∀ t ∈ L, ord t ∈ ts
  hm : w.heap.size ≤ m
  hb : w.heap.size ≤ b
  ne : m ≠ b
  bel : Below w.heap.size w w'
def LJ (w : World) (L : List Tm) (A : Option Addr) (c : Nat) (a : Act) (w' : World) : Prop :=
  ∃ (m b : Nat) (ts : List Tm) (u1 u5 u6 u7 u8 u9 u10 u11 u12 u13 u14 u15 u16 u17 u18 u19 u20 u21 u22 u23 u24 u25 u26 u27 u28 u29 u30 u31 u32 u33 u34 u35 u36 u37 u38 u39 u40 u41 u42 u43 u44 u45 u46 u47 u48 u49 u50 u51 u52 u53 u54 u55 u56 u57 u58 u59 : Value), a = { tmps := #[.slice A L.length c, u1, .map none, .map (some m), .map (some b), u5, u6, u7, u8, u9, u10, u11, u12, u13, u14, u15, u16, u17, u18, u19, u20, u21, u22, u23, u24, u25, u26, u27, u28, u29, u30, u31, u32, u33, u34, u35, u36, u37, u38, u39, u40, u41, u42, u43, u44, u45, u46, u47, u48, u49, u50, u51, u52, u53, u54, u55, u56, u57, u58, u59], defers := [] } ∧ Hid (LJ0 w L m b ts w')
/-- How much may still come. -/
def Lmu (L : List Tm) (a : Act) (w : World) : Nat :=
  match a.tmps.getD 4 undef with
  | .map (some b) => (match w.heap[b]? with | some (.map es _) => (univ L).length - es.size | _ => 0)
  | _ => 0
/-- What learn ends with. -/
def LR (w : World) (L : List Tm) (e : Ending) (w' : World) : Prop := ∃ b ts, e = .returned (.map (some b)) ∧ w.heap.size ≤ b ∧ KM w' (fun k => w.heap.size ≤ k ∧ k ≠ b) b ts ∧ Learnt L ts ∧ Below w.heap.size w w'
theorem KM.size {w : World} {D : Nat → Prop} {b : Nat} {ts : List Tm} (h : KM w D b ts) : ∃ es c, w.heap[b]? = some (.map es c) ∧ es.size = ts.length := by
  obtain ⟨_, es, c, hb, hr, _⟩ := h
  refine ⟨es, c, hb, ?_⟩
  have : ∀ (es : List MapEntry) (ts : List Tm), KE w D es ts → es.length = ts.length := by
    intro es
    induction es with
    | nil => intro ts h; cases ts with
      | nil => rfl
      | cons _ _ => exact h.elim
    | cons e es ih => intro ts h; cases ts with
      | nil => exact h.elim
      | cons t ts => simp [ih ts h.2]
  simpa using this es.toList ts hr
set_option maxRecDepth 100000 in
set_option maxHeartbeats 4000000 in
theorem learn_pass (w : World) (L : List Tm) (A : Option Addr) (c : Nat) (hL : mayL L = true) (hTab : Tab w) (a : Act) (w' : World) (hJ : LJ w L A c a w') :
    learnR.wp Tryd.prog (Exit.jump 0 (fun a2 w2 => LJ w L A c a2 w2 ∧ Lmu L a2 w2 < Lmu L a w') (bodyPost Tryd.prog Tryd.f38 (LR w L))) a w' := by
  obtain ⟨m, b, ts, u1, u5, u6, u7, u8, u9, u10, u11, u12, u13, u14, u15, u16, u17, u18, u19, u20, u21, u22, u23, u24, u25, u26, u27, u28, u29, u30, u31, u32, u33, u34, u35, u36, u37, u38, u39, u40, u41, u42, u43, u44, u45, u46, u47, u48, u49, u50, u51, u52, u53, u54, u55, u56, u57, u58, u59, rfl, H⟩ := hJ
  have HMU : Hid (Lmu L { tmps := #[.slice A L.length c, u1, .map none, .map (some m), .map (some b), u5, u6, u7, u8, u9, u10, u11, u12, u13, u14, u15, u16, u17, u18, u19, u20, u21, u22, u23, u24, u25, u26, u27, u28, u29, u30, u31, u32, u33, u34, u35, u36, u37, u38, u39, u40, u41, u42, u43, u44, u45, u46, u47, u48, u49, u50, u51, u52, u53, u54, u55, u56, u57, u58, u59], defers := [] } w' = (univ L).length - ts.length) := by
    obtain ⟨es, cc, h1, h2⟩ := H.out.km.size
    unfold Hid
    show (match w'.heap[b]? with | some (.map es _) => (univ L).length - es.size | _ => 0) = _
    rw [h1]; simp [h2]
  have HLEN := Lib.hid (Part.len H.out.part)
  have HU := Lib.hid (univ_len hL)
  have HTab := Lib.hid hTab
  clear hTab
  have hbl := H.out.km.lt
  have hcol := collect_any (b := b) (Bm := w'.heap.size) (w'.alloc (.cells #[.map (some b)] 56)) (H.out.km.bel (bself w' _)) (by have := HLEN.out; have := HU.out; omega) ((blk_cell (heap_alloc_new w' _) 0).trans rfl)
  rw [HMU.out]
  conv in learnR => whnf
  go_wp2_with (first
    | (go_at_call 58; refine (values_any b _).mono ?_; rintro e w1 ⟨rfl, rfl⟩)
    | (go_at_call 57; refine hcol.mono ?_; rintro e w2 ⟨v, us, rfl, hperm, hTS, hb2⟩; obtain ⟨Au, cu, rfl, hcu1, hcu2⟩ := hTS.form; have HPERM := Lib.hid hperm; have HTS := Lib.hid hTS; have HB2 := Lib.hid (bthen (bself w' _) hb2); have HLU := Lib.hid hperm.length_eq; clear hperm hTS hb2))
  clear hcol
  have hmono : Hid (TS w2 (fun k => w.heap.size ≤ k ∧ k ≠ b) us (.slice Au us.length cu)) := HTS.out.mono fun k hk _ => by
    rcases hk with hk | hk
    · exact hk
    · rw [World.size_alloc] at hk; have := H.out.bel.size; exact ⟨by omega, by omega⟩
  have HS2 := Lib.hid (Nat.le_trans H.out.bel.size HB2.out.size)
  go_loopw [34] (fun i wr => ∃ (j : Nat), i = .int .i64 j ∧ j ≤ us.length ∧ Hid (Below w2.heap.size w2 wr) ∧ Hid (∀ i u, i < j → us[i]? = some u → ∀ a ∈ apartT ts u, a ∈ ts)) (fun i _ => us.length - (intOf i).toNat)
  case atStart => exact ⟨0, rfl, Nat.zero_le _, Below.refl _ _, fun i u hi => by omega⟩
  case round =>
    obtain ⟨j, rfl, hj, HB, HX⟩ := hrel
    by_cases hlt : j < us.length
    · obtain ⟨u, hu⟩ : ∃ u, us[j]? = some u := ⟨_, List.getElem?_eq_getElem hlt⟩
      obtain ⟨bb, o, A2, cc', rfl, _, hbs, c0, c1, c2, hTu⟩ := hmono.out.at_ hu
      have d0 := (HB.out.cell (p := ⟨bb, o + j * 3, none⟩) hbs).trans c0
      have d1 := (HB.out.cell (p := ⟨bb, o + j * 3 + 1, none⟩) hbs).trans c1
      have d2 := (HB.out.cell (p := ⟨bb, o + j * 3 + 2, none⟩) hbs).trans c2
      have HUU := Lib.hid hu
      have hut : u ∈ ts := HPERM.out.subset (List.mem_of_getElem? hu)
      have hgu := H.out.part.good u hut
      have HBA := Lib.hid (bthen (bthen HB2.out HB.out) (bself wr (.cells #[.int .i64 u.k, .int .i64 u.n, .slice A2 u.args.length cc'] 25)))
      have hap := apart_any (b := b) (ts := ts) u _ _ (H.out.km.bel HBA.out) hgu.1 hgu.2.1 ((hTu.bel HB.out).bel (bself wr _)) (HTab.out.bel (bthen H.out.bel HBA.out))
      have HUT := Lib.hid hut
      have HGU := Lib.hid hgu
      clear hu c0 c1 c2 hTu hut hgu
      go_wp2_with (go_at_call 59; refine hap.mono ?_; rintro e w3 ⟨v3, rfl, hT3, hb3⟩; obtain ⟨A3, c3, rfl, hc31, hc32⟩ := hT3.form; have HT3 := Lib.hid hT3; have HB3 := Lib.hid hb3; clear hT3 hb3)
      have hbase3 : Below w.heap.size w w3 := (H.out.bel.trans (HBA.out.mono H.out.bel.size)).trans (HB3.out.mono (Nat.le_trans H.out.bel.size HBA.out.size))
      have HBASE3 := Lib.hid hbase3
      have HW3 : Hid (Below w'.heap.size w' w3) := bthen HBA.out HB3.out
      have HW23 : Hid (Below w2.heap.size w2 w3) := bthen (bthen HB.out (bself wr _)) HB3.out
      clear hbase3
      go_loopw [42] (fun i wr => ∃ (n : Nat), i = .int .i64 n ∧ n ≤ (apartT ts u).length ∧ Hid (Below w3.heap.size w3 wr) ∧ Hid (∀ i a, i < n → (apartT ts u)[i]? = some a → a ∈ ts)) (fun i _ => (apartT ts u).length - (intOf i).toNat)
      case atStart => exact ⟨0, rfl, Nat.zero_le _, Below.refl _ _, fun i u hi => by omega⟩
      case round =>
        rename_i wq _ _
        obtain ⟨n, rfl, hn, HBn, HXn⟩ := hrel
        by_cases hltn : n < (apartT ts u).length
        · obtain ⟨a, ha⟩ : ∃ a, (apartT ts u)[n]? = some a := ⟨_, List.getElem?_eq_getElem hltn⟩
          obtain ⟨b3, o3, A4, c4, rfl, _, hbs3, e0, e1, e2, hTa⟩ := HT3.out.at_ ha
          have g0 := (HBn.out.cell (p := ⟨b3, o3 + n * 3, none⟩) hbs3).trans e0
          have g1 := (HBn.out.cell (p := ⟨b3, o3 + n * 3 + 1, none⟩) hbs3).trans e1
          have g2 := (HBn.out.cell (p := ⟨b3, o3 + n * 3 + 2, none⟩) hbs3).trans e2
          have hka := Know.apart H.out.part.good H.out.part.know HUT.out (List.mem_of_getElem? ha)
          have HAA := Lib.hid ha
          have HKA := Lib.hid hka
          have HTA := Lib.hid (hTa.bel HBn.out)
          have HWr : Hid (Below w'.heap.size w' wr) := bthen HW3.out HBn.out
          have HWa : Hid (Below w'.heap.size w' (wr.alloc (.cells #[.int .i64 a.k, .int .i64 a.n, .slice A4 a.args.length c4] 25))) := bthen HWr.out (bself wr _)
          have htx := text_any _ a _ m (wr.alloc (.cells #[.int .i64 a.k, .int .i64 a.n, .slice A4 a.args.length c4] 25)) (Nat.le_refl _) hka.2.1 hka.2.2.1 ((HTA.out.bel (bself wr _)).any) (H.out.fm.bel HWa.out) (HTab.out.bel (bthen H.out.bel HWa.out))
          obtain ⟨xv, hlf, hlk, hlv⟩ := look_K H.out.km (txt a)
          obtain ⟨xk, xn, xA, xl, xc, rfl, hkind⟩ := look_kind H.out.km.1 hlv
          have lf : ∀ w : World, (Instr.field 25 (.agg #[.int .i64 xk, .int .i64 xn, .slice xA xl xc]) 0).run Tryd.prog w = .ok (.int .i64 xk) w := fun w => field25 _ _ _ _
          have HLF := Lib.hid hlf
          have HWS := Lib.hid (Nat.le_trans H.out.bel.size HWr.out.size)
          clear ha e0 e1 e2 hTa hka hlk hlv hlf
          cases hh : hasT ts (txt a) with
          | true =>
            have HH := Lib.hid hh
            rw [hh] at hkind
            clear hh
            go_wp2_with (first
              | (go_at_call 50; refine htx.mono ?_; rintro e w4 ⟨rfl, hb4⟩; have HB4 := Lib.hid hb4; have hlk := HLF.out w4 ((bthen HWa.out hb4).block b hbl); clear hb4)
              | (at_lookup; refine wpList_look rfl _ _ false rfl rfl rfl hlk ?_))
            go_roundw
            case rel =>
              refine ⟨n + 1, by go_num, by omega, bthen (bthen HBn.out (bself wr _)) HB4.out, fun i q hi hq => ?_⟩
              rcases Nat.lt_or_ge i n with h | h
              · exact HXn.out i q h hq
              · obtain rfl : i = n := by omega
                rw [HAA.out] at hq
                cases hq
                exact (hasT_iff (fun t ht => (H.out.part.good t ht).1) HKA.out.2.1).1 HH.out
            case measure => simp [intOf]; omega
          | false =>
            have HH := Lib.hid hh
            rw [hh] at hkind
            clear hh
            go_wp2_with (first
              | (go_at_call 50; refine htx.mono ?_; rintro e w4 ⟨rfl, hb4⟩; have HB4 := Lib.hid hb4; have hlk := HLF.out w4 ((bthen HWa.out hb4).block b hbl); have HKM4 := Lib.hid (H.out.km.bel (bthen HWa.out hb4)); have hx4 := (hb4.block wr.heap.size (by simp)).trans (heap_alloc_new wr _); obtain ⟨y0, y1, y2, _, _, _⟩ := cell3_load hx4; obtain ⟨w5, hput, hkm5, hg5⟩ := put_K HKM4.out HKA.out.2 ((((HTA.out.bel (bself wr _)).bel hb4))) (fun h => h.2 rfl); have HKM5 := Lib.hid hkm5; have HG5 := Lib.hid hg5; clear hb4 hx4 hkm5 hg5)
              | (at_lookup; refine wpList_look rfl _ _ false rfl rfl rfl hlk ?_)
              | (at_mapUpdate; refine wpList_put rfl _ _ _ rfl rfl rfl rfl rfl hput ?_))
            refine wp_goto (And.intro rfl (And.intro ?_ ?_))
            · refine ⟨m, b, kput ts a, _, _, _, _, _, _, _, _, _, _, _, _, _, _, _, _, _, _, _, _, _, _, _, _, _, _, _, _, _, _, _, _, _, _, _, _, _, _, _, _, _, _, _, _, _, _, _, _, _, _, _, _, _, _, _, _, rfl, ?_⟩
              have hb4 := bthen HWa.out HB4.out
              exact ⟨HG5.out.heap (H.out.fm.bel hb4) H.out.ne, HKM5.out, H.out.part.put HKA.out.2 HKA.out.1, fun t ht => kput_old (H.out.base t ht), H.out.hm, H.out.hb, H.out.ne,
                (H.out.bel.trans (hb4.mono H.out.bel.size)).trans (HG5.out.below (Nat.le_trans H.out.bel.size hb4.size) fun k e => e ▸ H.out.hb)⟩
            · obtain ⟨es, cc, h1, h2⟩ := HKM5.out.size
              show (match w5.heap[b]? with | some (.map es _) => (univ L).length - es.size | _ => 0) < _
              rw [h1]
              have h3 := Part.len (H.out.part.put HKA.out.2 HKA.out.1)
              have h4 : (kput ts a).length = ts.length + 1 := by unfold kput; rw [HH.out]; simp
              simp only [h2]
              omega
        · obtain rfl : n = (apartT ts u).length := by omega
          go_wp2_with fail
          go_roundw
          case rel =>
            refine ⟨j + 1, by go_num, by omega, bthen HW23.out HBn.out, fun i q hi hq a ha => ?_⟩
            rcases Nat.lt_or_ge i j with h | h
            · exact HX.out i q h hq a ha
            · obtain rfl : i = j := by omega
              rw [HUU.out] at hq
              cases hq
              obtain ⟨n, hn⟩ := List.getElem?_of_mem ha
              exact HXn.out n a (List.getElem?_eq_some_iff.1 hn).1 hn
          case measure => simp [intOf]; omega
    · obtain rfl : j = us.length := by omega
      go_wp2_with fail
      change bodyPost Tryd.prog Tryd.f38 (LR w L) Exit.ret _ _
      go_ret
      refine ⟨b, ts, rfl, H.out.hb, (H.out.km.bel (bthen HB2.out HB.out)), ⟨H.out.part.good, H.out.base, H.out.part.know, fun t ht a ha => ?_⟩, H.out.bel.trans ((bthen HB2.out HB.out).mono H.out.bel.size)⟩
      obtain ⟨n, hn⟩ := List.getElem?_of_mem (HPERM.out.symm.subset ht)
      exact HX.out n t (List.getElem?_eq_some_iff.1 hn).1 hn a ha
end Go.Proofs.YtfhpnkmhppfeiaaDoor
