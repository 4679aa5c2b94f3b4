/- The law TermsLearns, walked. -/
import Derived.Test.YtfhpnkmhppfeiaaDoorA23
import Derived.Test.YtfhpnkmhppfeiaaDoorA20
import Derived.Test.YtfhpnkmhppfeiaaDoorS5
import Derived.Test.YtfhpnkmhppfeiaaDoorR12
set_option linter.unusedVariables false
set_option linter.unusedSimpArgs false
namespace Go.Proofs.YtfhpnkmhppfeiaaDoor
open Go.RowKit Go.Proofs
set_option maxRecDepth 100000 in
theorem num_any (n : Int) (w : World) : Calls Tryd.prog 25 #[.int .i64 n] w fun e w' => e = .returned (.int .i64 n) ∧ w' = w := by
  go_enter Tryd.func25, Tryd.ntmps25
  go_wp2_with fail
  go_ret
  exact ⟨rfl, rfl⟩
/-- The world within the law: the boxed goal. -/
structure LW (w : World) (cx : Array Value) (wr : World) : Prop where
  hb : Below w.heap.size w wr
  hx : wr.heap[w.heap.size]? = some (.cells cx 25 (0, 0))
theorem LW.bel {w wr w1 : World} {cx : Array Value} (h : LW w cx wr) (hb : Below wr.heap.size wr w1) : LW w cx w1 :=
  ⟨bthen h.hb hb, (hb.block _ (Array.getElem?_eq_some_iff.1 h.hx).1).trans h.hx⟩
theorem canS_may {L : List Tm} {g : Tm} (h : may g = false) : canS L g = false := by
  rw [Bool.eq_false_iff]; intro hc; rw [(canS_iff.1 hc).1] at h; cases h
theorem canS_ref {L : List Tm} {g : Tm} : canS L g = (may g && canS L g) := by
  cases h : may g with
  | true => rfl
  | false => exact canS_may h
theorem same_len {L us ts tw : List Tm} (h1 : us.Perm ts) (h2 : Learnt L ts) (h3 : ts.Nodup) (h4 : Learnt L tw) (h5 : tw.Nodup) : tw.length = us.length ∧ ∀ t ∈ us, t ∈ tw := by
  have e : ∀ t, t ∈ ts ↔ t ∈ tw := fun t => (h2.iff t).trans (h4.iff t).symm
  exact ⟨((List.perm_ext_iff_of_nodup h5 h3).2 fun t => (e t).symm).length_eq.trans h1.length_eq.symm, fun t ht => (e t).1 (h1.subset ht)⟩
set_option maxRecDepth 100000 in
set_option maxHeartbeats 4000000 in
theorem learns_any (L : List Tm) (g : Tm) (vl vg : Value) (w : World) (hT : TS w Any L vl) (hG : TR w Any g vg) (hTab : Tab w) :
    Calls Tryd.prog 8 #[vl, vg] w fun e w' => e = .returned (.bool true) ∧ Below w.heap.size w w' := by
  obtain ⟨A, c, rfl, hc1, hc2⟩ := hT.form
  obtain ⟨Ag, cg, rfl⟩ := hG.form3
  have HT := Lib.hid hT
  have HG := Lib.hid hG
  have HTab := Lib.hid hTab
  clear hT hG hTab
  have C12 : Hid (∀ w1, Below w.heap.size w w1 → Calls Tryd.prog 12 #[] w1 fun e w' => e = .returned (.bool true) ∧ Below w1.heap.size w1 w') := fun w1 hb => known_any w1 (HTab.out.bel hb)
  have C13 : Hid (∀ w1, Below w.heap.size w w1 → Calls Tryd.prog 13 #[.slice A L.length c] w1 fun e w' => e = .returned (.bool (muchS L)) ∧ Below w1.heap.size w1 w') := fun w1 hb => Much_any L _ w1 (HT.out.bel hb)
  have C14 : Hid (∀ w1, Below w.heap.size w w1 → Calls Tryd.prog 14 #[.agg #[.int .i64 g.k, .int .i64 g.n, .slice Ag g.args.length cg], .int .i64 301] w1 fun e w' => e = .returned (.int .i64 (sizeM g 301 : Nat)) ∧ Below w1.heap.size w1 w') := fun w1 hb => Size_any _ g _ 301 w1 (Nat.le_refl _) (by omega) (HG.out.bel hb)
  have C15 : Hid (∀ w1, Below w.heap.size w w1 → Calls Tryd.prog 15 #[.slice A L.length c] w1 fun e w' => e = .returned (.bool (L.all may)) ∧ Below w1.heap.size w1 w') := fun w1 hb => all_any L _ w1 (HT.out.bel hb)
  have C16 : Hid (∀ w1, Below w.heap.size w w1 → Calls Tryd.prog 16 #[.agg #[.int .i64 g.k, .int .i64 g.n, .slice Ag g.args.length cg]] w1 fun e w' => e = .returned (.bool (may g)) ∧ Below w1.heap.size w1 w') := fun w1 hb => rMay_any g _ w1 (HG.out.bel hb)
  have C17 : Hid (∀ w1, Below w.heap.size w w1 → Calls Tryd.prog 17 #[.agg #[.int .i64 g.k, .int .i64 g.n, .slice Ag g.args.length cg], .slice A L.length c] w1 fun e w' => e = .returned (.bool (canS L g)) ∧ Below w1.heap.size w1 w') := fun w1 hb => Can_any g L _ _ w1 (HG.out.bel hb) (HT.out.bel hb) (HTab.out.bel hb)
  obtain ⟨W2, hW2⟩ : ∃ W2 : World, W2 = w.alloc (.cells #[.int .i64 g.k, .int .i64 g.n, .slice Ag g.args.length cg] 25) := ⟨_, rfl⟩
  have HX := Lib.hid (show LW w #[.int .i64 g.k, .int .i64 g.n, .slice Ag g.args.length cg] W2 from by rw [hW2]; exact ⟨bself w _, heap_alloc_new _ _⟩)
  have HW2 := Lib.hid hW2
  clear hW2
  have r0 := (blk_cell HX.out.hx 0).trans rfl
  have r1 := (blk_cell HX.out.hx 1).trans rfl
  have r2 := (blk_cell HX.out.hx 2).trans rfl
  cases h1 : muchS L with
  | true =>
    rw [h1] at C13
    clear h1
    go_enter Tryd.func8, Tryd.ntmps8
    go_upto_region 1 with fail
    rw [← HW2.out]
    go_wp2_with (first
      | (go_at_call 13; with_reducible refine (C13.out _ HX.out.hb).mono ?_; rintro e w1 ⟨rfl, hb⟩; have HX := Lib.hid (HX.out.bel hb); clear hb r0 r1 r2; have r0 := (blk_cell HX.out.hx 0).trans rfl; have r1 := (blk_cell HX.out.hx 1).trans rfl; have r2 := (blk_cell HX.out.hx 2).trans rfl)
      | (go_at_call 12; with_reducible refine (C12.out _ HX.out.hb).mono ?_; rintro e w1 ⟨rfl, hb⟩; have HX := Lib.hid (HX.out.bel hb); clear hb r0 r1 r2; have r0 := (blk_cell HX.out.hx 0).trans rfl; have r1 := (blk_cell HX.out.hx 1).trans rfl; have r2 := (blk_cell HX.out.hx 2).trans rfl))
    go_ret
    exact ⟨rfl, HX.out.hb⟩
  | false =>
  have HMU := Lib.hid (muchS_no h1)
  rw [h1] at C13
  clear h1
  by_cases h2 : 300 < size g
  · have e2 : ((sizeM g 301 : Nat) : Int) > 300 := by unfold sizeM; omega
    go_enter Tryd.func8, Tryd.ntmps8
    go_upto_region 1 with fail
    rw [← HW2.out]
    go_wp2_with (first
      | (go_at_call 13; with_reducible refine (C13.out _ HX.out.hb).mono ?_; rintro e w1 ⟨rfl, hb⟩; have HX := Lib.hid (HX.out.bel hb); clear hb r0 r1 r2; have r0 := (blk_cell HX.out.hx 0).trans rfl; have r1 := (blk_cell HX.out.hx 1).trans rfl; have r2 := (blk_cell HX.out.hx 2).trans rfl)
      | (go_at_call 14; with_reducible refine (C14.out _ HX.out.hb).mono ?_; rintro e w1 ⟨rfl, hb⟩; have HX := Lib.hid (HX.out.bel hb); clear hb r0 r1 r2; have r0 := (blk_cell HX.out.hx 0).trans rfl; have r1 := (blk_cell HX.out.hx 1).trans rfl; have r2 := (blk_cell HX.out.hx 2).trans rfl)
      | (go_at_call 12; with_reducible refine (C12.out _ HX.out.hb).mono ?_; rintro e w1 ⟨rfl, hb⟩; have HX := Lib.hid (HX.out.bel hb); clear hb r0 r1 r2; have r0 := (blk_cell HX.out.hx 0).trans rfl; have r1 := (blk_cell HX.out.hx 1).trans rfl; have r2 := (blk_cell HX.out.hx 2).trans rfl))
    go_ret
    exact ⟨rfl, HX.out.hb⟩
  have e2 : ((sizeM g 301 : Nat) : Int) ≤ 300 := by unfold sizeM; omega
  have HSG := Lib.hid h2
  clear h2
  cases h4 : L.all may with
  | false =>
    have hml : mayL L = false := by
      rw [Bool.eq_false_iff]; intro hc; rw [List.all_eq_true.2 (mayL_iff.1 hc).2] at h4; cases h4
    rw [h4] at C15
    rw [canS_no (.inr hml)] at C17
    have C24 : Hid (∀ w1, Below w.heap.size w w1 → Calls Tryd.prog 24 #[.slice A L.length c] w1 fun e w' => e = .returned (.tuple #[.slice none 0 0, .int .i64 2]) ∧ Below w1.heap.size w1 w') := fun w1 hb => Learn_no L _ w1 hml (HT.out.bel hb)
    clear h4 hml
    go_enter Tryd.func8, Tryd.ntmps8
    go_upto_region 1 with fail
    rw [← HW2.out]
    go_wp2_with (first
      | (go_at_call 13; with_reducible refine (C13.out _ HX.out.hb).mono ?_; rintro e w1 ⟨rfl, hb⟩; have HX := Lib.hid (HX.out.bel hb); clear hb r0 r1 r2; have r0 := (blk_cell HX.out.hx 0).trans rfl; have r1 := (blk_cell HX.out.hx 1).trans rfl; have r2 := (blk_cell HX.out.hx 2).trans rfl)
      | (go_at_call 14; with_reducible refine (C14.out _ HX.out.hb).mono ?_; rintro e w1 ⟨rfl, hb⟩; have HX := Lib.hid (HX.out.bel hb); clear hb r0 r1 r2; have r0 := (blk_cell HX.out.hx 0).trans rfl; have r1 := (blk_cell HX.out.hx 1).trans rfl; have r2 := (blk_cell HX.out.hx 2).trans rfl)
      | (go_at_call 24; with_reducible refine (C24.out _ HX.out.hb).mono ?_; rintro e w1 ⟨rfl, hb⟩; have HX := Lib.hid (HX.out.bel hb); clear hb r0 r1 r2; have r0 := (blk_cell HX.out.hx 0).trans rfl; have r1 := (blk_cell HX.out.hx 1).trans rfl; have r2 := (blk_cell HX.out.hx 2).trans rfl)
      | (go_at_call 17; with_reducible refine (C17.out _ HX.out.hb).mono ?_; rintro e w1 ⟨rfl, hb⟩; have HX := Lib.hid (HX.out.bel hb); clear hb r0 r1 r2; have r0 := (blk_cell HX.out.hx 0).trans rfl; have r1 := (blk_cell HX.out.hx 1).trans rfl; have r2 := (blk_cell HX.out.hx 2).trans rfl)
      | (go_at_call 15; with_reducible refine (C15.out _ HX.out.hb).mono ?_; rintro e w1 ⟨rfl, hb⟩; have HX := Lib.hid (HX.out.bel hb); clear hb r0 r1 r2; have r0 := (blk_cell HX.out.hx 0).trans rfl; have r1 := (blk_cell HX.out.hx 1).trans rfl; have r2 := (blk_cell HX.out.hx 2).trans rfl)
      | (go_at_call 25; refine (num_any _ _).mono ?_; rintro e w1 ⟨rfl, rfl⟩)
      | (go_at_call 12; with_reducible refine (C12.out _ HX.out.hb).mono ?_; rintro e w1 ⟨rfl, hb⟩; have HX := Lib.hid (HX.out.bel hb); clear hb r0 r1 r2; have r0 := (blk_cell HX.out.hx 0).trans rfl; have r1 := (blk_cell HX.out.hx 1).trans rfl; have r2 := (blk_cell HX.out.hx 2).trans rfl))
    go_ret
    exact ⟨rfl, HX.out.hb⟩
  | true =>
    have HALL : Hid (∀ t ∈ L, may t = true) := fun t ht => by rw [List.all_eq_true] at h4; exact h4 t ht
    have hml : mayL L = true := mayL_iff.2 ⟨by have := HMU.out.1; omega, HALL.out⟩
    rw [h4] at C15
    have C24 : Hid (∀ w1, Below w.heap.size w w1 → Calls Tryd.prog 24 #[.slice A L.length c] w1 (LearnT w1 L)) := fun w1 hb => Learn_any L _ w1 hml (HT.out.bel hb) (HTab.out.bel hb)
    have C26 : Hid (∀ w1, Below w.heap.size w w1 → Calls Tryd.prog 26 #[.slice A L.length c] w1 (LearnR w1 L)) := fun w1 hb => rLearn_any L _ w1 hml (HT.out.bel hb) (HTab.out.bel hb)
    have C27 : Hid (may g = true → ∀ w1, Below w.heap.size w w1 → Calls Tryd.prog 27 #[.agg #[.int .i64 g.k, .int .i64 g.n, .slice Ag g.args.length cg], .slice A L.length c] w1 fun e w' => e = .returned (.bool (canS L g)) ∧ Below w1.heap.size w1 w') := fun hm w1 hb => rCan_any g L _ _ w1 hm hml (HG.out.bel hb) (HT.out.bel hb) (HTab.out.bel hb)
    have HUN := Lib.hid (univ_len hml)
    have HCM := Lib.hid (fun h : may g = false => canS_may (L := L) h)
    clear h4 hml
    obtain ⟨y, hy⟩ : ∃ y, y = canS L g := ⟨_, rfl⟩
    rw [← hy] at C17 C27 HCM
    obtain ⟨mg, hmg⟩ : ∃ mg, mg = may g := ⟨_, rfl⟩
    rw [← hmg] at C16 C27 HCM
    clear hy hmg
    go_enter Tryd.func8, Tryd.ntmps8
    go_upto_region 1 with fail
    rw [← HW2.out]
    go_upto_region 8 with (first
      | (go_at_call 13; with_reducible refine (C13.out _ HX.out.hb).mono ?_; rintro e w1 ⟨rfl, hb⟩; have HX := Lib.hid (HX.out.bel hb); clear hb r0 r1 r2; have r0 := (blk_cell HX.out.hx 0).trans rfl; have r1 := (blk_cell HX.out.hx 1).trans rfl; have r2 := (blk_cell HX.out.hx 2).trans rfl)
      | (go_at_call 14; with_reducible refine (C14.out _ HX.out.hb).mono ?_; rintro e w1 ⟨rfl, hb⟩; have HX := Lib.hid (HX.out.bel hb); clear hb r0 r1 r2; have r0 := (blk_cell HX.out.hx 0).trans rfl; have r1 := (blk_cell HX.out.hx 1).trans rfl; have r2 := (blk_cell HX.out.hx 2).trans rfl)
      | (go_at_call 24; refine (C24.out _ HX.out.hb).mono ?_; rintro e w1 ⟨vx, us, ts, rfl, hTx, hpm, hri, hle, hnd, hlu, hb⟩; obtain ⟨Ax, cx, rfl, hx1, hx2⟩ := hTx.form; have HTX := Lib.hid hTx; have HPM := Lib.hid hpm; have HRI := Lib.hid hri; have HLE := Lib.hid hle; have HND := Lib.hid hnd; have HLU := Lib.hid hlu; clear hTx hpm hri hle hnd hlu; have HX := Lib.hid (HX.out.bel hb); clear hb r0 r1 r2; have r0 := (blk_cell HX.out.hx 0).trans rfl; have r1 := (blk_cell HX.out.hx 1).trans rfl; have r2 := (blk_cell HX.out.hx 2).trans rfl)
      | (go_at_call 17; with_reducible refine (C17.out _ HX.out.hb).mono ?_; rintro e w1 ⟨rfl, hb⟩; have HX := Lib.hid (HX.out.bel hb); have HTX := Lib.hid (HTX.out.bel hb); clear hb r0 r1 r2; have r0 := (blk_cell HX.out.hx 0).trans rfl; have r1 := (blk_cell HX.out.hx 1).trans rfl; have r2 := (blk_cell HX.out.hx 2).trans rfl)
      | (go_at_call 15; with_reducible refine (C15.out _ HX.out.hb).mono ?_; rintro e w1 ⟨rfl, hb⟩; have HX := Lib.hid (HX.out.bel hb); have HTX := Lib.hid (HTX.out.bel hb); clear hb r0 r1 r2; have r0 := (blk_cell HX.out.hx 0).trans rfl; have r1 := (blk_cell HX.out.hx 1).trans rfl; have r2 := (blk_cell HX.out.hx 2).trans rfl)
      | (go_at_call 26; refine (C26.out _ HX.out.hb).mono ?_; rintro e w1 ⟨vw, tw, rfl, hTw, hlw, hnw, hb⟩; obtain ⟨hlen, hsub⟩ := same_len HPM.out HLE.out HND.out hlw hnw; obtain ⟨Aw, cw, rfl, hw1, hw2⟩ := hTw.form; have HTW := Lib.hid hTw; rw [hlen] at HTW ⊢; have HLEN := Lib.hid hlen; have HSUB := Lib.hid hsub; clear hTw hlw hnw hlen hsub hw1 hw2; have HX := Lib.hid (HX.out.bel hb); have HTX := Lib.hid (HTX.out.bel hb); clear hb r0 r1 r2; have r0 := (blk_cell HX.out.hx 0).trans rfl; have r1 := (blk_cell HX.out.hx 1).trans rfl; have r2 := (blk_cell HX.out.hx 2).trans rfl))
    have hlu2 : us.length ≤ 1000000 := by rw [HPM.out.length_eq]; have := HLU.out; have := HUN.out; omega
    go_cut [68] from 48 to 67 (fun m w' => m = .bool false ∧ Hid (LW w #[.int .i64 g.k, .int .i64 g.n, .slice Ag g.args.length cg] w') ∧ Hid (TS w' Any us (.slice Ax us.length cx)) ∧ Hid (TS w' Any tw (.slice Aw us.length cw)))
    case first =>
      cases mg with
      | true =>
        have C27b : Hid (∀ w1, Below w.heap.size w w1 → Calls Tryd.prog 27 #[.agg #[.int .i64 g.k, .int .i64 g.n, .slice Ag g.args.length cg], .slice A L.length c] w1 fun e w' => e = .returned (.bool y) ∧ Below w1.heap.size w1 w') := C27.out rfl
        cases y with
        | true =>
          go_wp2_with (first
            | (go_at_call 25; refine (num_any _ _).mono ?_; rintro e w1 ⟨rfl, rfl⟩)
            | (go_at_call 16; with_reducible refine (C16.out _ HX.out.hb).mono ?_; rintro e w1 ⟨rfl, hb⟩; have HX := Lib.hid (HX.out.bel hb); have HTX := Lib.hid (HTX.out.bel hb); have HTW := Lib.hid (HTW.out.bel hb); clear hb r0 r1 r2; have r0 := (blk_cell HX.out.hx 0).trans rfl; have r1 := (blk_cell HX.out.hx 1).trans rfl; have r2 := (blk_cell HX.out.hx 2).trans rfl)
            | (go_at_call 27; with_reducible refine (C27b.out _ HX.out.hb).mono ?_; rintro e w1 ⟨rfl, hb⟩; have HX := Lib.hid (HX.out.bel hb); have HTX := Lib.hid (HTX.out.bel hb); have HTW := Lib.hid (HTW.out.bel hb); clear hb r0 r1 r2; have r0 := (blk_cell HX.out.hx 0).trans rfl; have r1 := (blk_cell HX.out.hx 1).trans rfl; have r2 := (blk_cell HX.out.hx 2).trans rfl))
          go_meet
          case rel => exact ⟨rfl, HX, HTX, HTW⟩
        | false =>
          go_wp2_with (first
            | (go_at_call 25; refine (num_any _ _).mono ?_; rintro e w1 ⟨rfl, rfl⟩)
            | (go_at_call 16; with_reducible refine (C16.out _ HX.out.hb).mono ?_; rintro e w1 ⟨rfl, hb⟩; have HX := Lib.hid (HX.out.bel hb); have HTX := Lib.hid (HTX.out.bel hb); have HTW := Lib.hid (HTW.out.bel hb); clear hb r0 r1 r2; have r0 := (blk_cell HX.out.hx 0).trans rfl; have r1 := (blk_cell HX.out.hx 1).trans rfl; have r2 := (blk_cell HX.out.hx 2).trans rfl)
            | (go_at_call 27; with_reducible refine (C27b.out _ HX.out.hb).mono ?_; rintro e w1 ⟨rfl, hb⟩; have HX := Lib.hid (HX.out.bel hb); have HTX := Lib.hid (HTX.out.bel hb); have HTW := Lib.hid (HTW.out.bel hb); clear hb r0 r1 r2; have r0 := (blk_cell HX.out.hx 0).trans rfl; have r1 := (blk_cell HX.out.hx 1).trans rfl; have r2 := (blk_cell HX.out.hx 2).trans rfl))
          go_meet
          case rel => exact ⟨rfl, HX, HTX, HTW⟩
      | false =>
        obtain rfl : y = false := HCM.out rfl
        go_wp2_with (first
          | (go_at_call 25; refine (num_any _ _).mono ?_; rintro e w1 ⟨rfl, rfl⟩)
          | (go_at_call 16; with_reducible refine (C16.out _ HX.out.hb).mono ?_; rintro e w1 ⟨rfl, hb⟩; have HX := Lib.hid (HX.out.bel hb); have HTX := Lib.hid (HTX.out.bel hb); have HTW := Lib.hid (HTW.out.bel hb); clear hb r0 r1 r2; have r0 := (blk_cell HX.out.hx 0).trans rfl; have r1 := (blk_cell HX.out.hx 1).trans rfl; have r2 := (blk_cell HX.out.hx 2).trans rfl))
        go_meet
        case rel => exact ⟨rfl, HX, HTX, HTW⟩
    case rest =>
      obtain ⟨rfl, HX, HTX, HTW⟩ := hcut
      have C12c : Hid (∀ w1, Below wc.heap.size wc w1 → Calls Tryd.prog 12 #[] w1 fun e w' => e = .returned (.bool true) ∧ Below w1.heap.size w1 w') := fun w1 hb => C12.out w1 (bthen HX.out.hb hb)
      have HBC := Lib.hid HX.out.hb
      have HTABC := Lib.hid (HTab.out.bel HX.out.hb)
      have HGD := Lib.hid (fun t (ht : t ∈ us) => HLE.out.good t (HPM.out.subset ht))
      have HWL := Lib.hid HLEN.out
      go_wp2_with fail
      go_loopw [9] (fun i wr => ∃ (j : Nat), i = .int .i64 j ∧ j ≤ us.length ∧ Hid (Below wc.heap.size wc wr)) (fun i _ => us.length - (intOf i).toNat)
      case atStart => exact ⟨0, rfl, Nat.zero_le _, Below.refl _ _⟩
      case round =>
        obtain ⟨j, rfl, hj, HB⟩ := hrel
        by_cases hlt : j < us.length
        · obtain ⟨a, ha⟩ : ∃ a, us[j]? = some a := ⟨_, List.getElem?_eq_getElem hlt⟩
          have HAA := Lib.hid ha
          obtain ⟨ba, oa, A2, ca, rfl, _, hba, c0, c1, c2, hTa⟩ := HTX.out.at_ ha
          have HC0 := Lib.hid c0
          have HC1 := Lib.hid c1
          have HC2 := Lib.hid c2
          have HTA := Lib.hid hTa
          clear ha c0 c1 c2 hTa
          go_wp2_with fail
          go_loopw [10, 11] (fun f k w2 => ∃ (q : Nat) (b : Bool), f = .bool b ∧ k = .int .i64 q ∧ q ≤ us.length ∧ Hid (b = true ∨ ∀ i t, i < q → tw[i]? = some t → t ≠ a) ∧ Hid (Below wc.heap.size wc w2)) (fun _ k _ => us.length - (intOf k).toNat)
          case atStart => exact ⟨0, false, rfl, rfl, Nat.zero_le _, .inr fun i t h => absurd h (Nat.not_lt_zero _), HB⟩
          case round =>
            rename_i w0 _ _
            obtain ⟨q, b, rfl, rfl, hq, HNO, HB2⟩ := hrel
            by_cases hltq : q < us.length
            · obtain ⟨d, hd⟩ : ∃ d, tw[q]? = some d := ⟨_, List.getElem?_eq_getElem (by rw [HLEN.out]; exact hltq)⟩
              obtain ⟨bd, od, A4, cd, rfl, _, hbd, e0, e1, e2, hTd⟩ := HTW.out.at_ hd
              have HDD := Lib.hid hd
              have hsz := HB2.out.size
              have a0 : ∀ x : Later wr.heap.size wr, x.w.cell? ⟨ba, oa + j * 3, none⟩ = some (.int .i64 a.k) := fun x => x.cell ((HB2.out.cell (p := ⟨ba, oa + j * 3, none⟩) hba).trans HC0.out) (show ba < _ by omega)
              have a1 : ∀ x : Later wr.heap.size wr, x.w.cell? ⟨ba, oa + j * 3 + 1, none⟩ = some (.int .i64 a.n) := fun x => x.cell ((HB2.out.cell (p := ⟨ba, oa + j * 3 + 1, none⟩) hba).trans HC1.out) (show ba < _ by omega)
              have a2 : ∀ x : Later wr.heap.size wr, x.w.cell? ⟨ba, oa + j * 3 + 2, none⟩ = some (.slice A2 a.args.length ca) := fun x => x.cell ((HB2.out.cell (p := ⟨ba, oa + j * 3 + 2, none⟩) hba).trans HC2.out) (show ba < _ by omega)
              have d0 : ∀ x : Later wr.heap.size wr, x.w.cell? ⟨bd, od + q * 3, none⟩ = some (.int .i64 d.k) := fun x => x.cell ((HB2.out.cell (p := ⟨bd, od + q * 3, none⟩) hbd).trans e0) (show bd < _ by omega)
              have d1 : ∀ x : Later wr.heap.size wr, x.w.cell? ⟨bd, od + q * 3 + 1, none⟩ = some (.int .i64 d.n) := fun x => x.cell ((HB2.out.cell (p := ⟨bd, od + q * 3 + 1, none⟩) hbd).trans e1) (show bd < _ by omega)
              have d2 : ∀ x : Later wr.heap.size wr, x.w.cell? ⟨bd, od + q * 3 + 2, none⟩ = some (.slice A4 d.args.length cd) := fun x => x.cell ((HB2.out.cell (p := ⟨bd, od + q * 3 + 2, none⟩) hbd).trans e2) (show bd < _ by omega)
              have hic : Hid (∀ x : Later wr.heap.size wr, Calls Tryd.prog 21 #[.agg #[.int .i64 a.k, .int .i64 a.n, .slice A2 a.args.length ca], .agg #[.int .i64 d.k, .int .i64 d.n, .slice A4 d.args.length cd]] x.w fun e w' => e = .returned (.bool (eqT a d)) ∧ Below x.w.heap.size x.w w') := fun x =>
                Equal_any _ a d _ _ x.w (Nat.le_refl _) ((HTA.out.bel HB2.out).bel x.2) ((hTd.bel HB2.out).bel x.2)
              clear hd e0 e1 e2 hTd hsz
              obtain ⟨y, hy⟩ : ∃ y, y = eqT a d := ⟨_, rfl⟩
              rw [← hy] at hic
              have HY := Lib.hid hy
              clear hy
              cases b with
              | true =>
                clear a0 a1 a2 d0 d1 d2 hic
                go_wp2_with fail
                refine wp_region_later wr.heap.size (by kernel_rfl) ?_
                repeat (first | go_big_quiet_step (fail) | quiet_step (fail))
                refine wpQuiet_nil (later_all ?_)
                intro wx hx
                have HXX := Lib.hid hx
                clear hx
                go_wp2_with fail
                go_roundw
                case rel => exact ⟨q + 1, true, rfl, by go_num, by omega, .inl rfl, bthen HB2.out HXX.out⟩
                case measure => simp [intOf]; omega
              | false =>
                go_wp2_with fail
                refine wp_region_later wr.heap.size (by kernel_rfl) ?_
                repeat (first | go_big_quiet_step ((go_at_call 21; exact later_call (hic.out _) (Nat.le_refl _))) | quiet_step ((go_at_call 21; exact later_call (hic.out _) (Nat.le_refl _))))
                refine wpQuiet_nil (later_all ?_)
                intro wx hx
                have HXX := Lib.hid hx
                clear hx a0 a1 a2 d0 d1 d2 hic
                go_wp2_with fail
                go_roundw
                case rel =>
                  refine ⟨q + 1, y, rfl, by go_num, by omega, ?_, bthen HB2.out HXX.out⟩
                  cases y with
                  | true => exact .inl rfl
                  | false =>
                    refine .inr fun i t hi ht => ?_
                    rcases HNO.out with h | h
                    · cases h
                    · rcases Nat.lt_succ_iff_lt_or_eq.1 hi with h2 | rfl
                      · exact h i t h2 ht
                      · rw [HDD.out] at ht
                        have e2 : d = t := Option.some.inj ht
                        intro e
                        have := (eqT_iff a d).2 (e2.trans e).symm
                        rw [← HY.out] at this
                        cases this
                case measure => simp [intOf]; omega
            · obtain rfl : q = us.length := by omega
              obtain rfl : b = true := by
                rcases HNO.out with h | h
                · exact h
                · exfalso
                  obtain ⟨i, hi⟩ := List.getElem?_of_mem (HSUB.out a (List.mem_of_getElem? HAA.out))
                  exact h i a (by have := (List.getElem?_eq_some_iff.1 hi).1; rw [HLEN.out] at this; exact this) hi rfl
              have hsz := HB2.out.size
              cases j with
              | zero =>
                go_wp2_with fail
                refine wp_region_later wr.heap.size (by kernel_rfl) ?_
                repeat (first | go_big_quiet_step (fail) | quiet_step (fail))
                refine wpQuiet_nil (later_all ?_)
                intro wx hx
                have HXX := Lib.hid hx
                clear hx
                go_wp2_with fail
                go_roundw
                case rel => exact ⟨1, by go_num, by omega, bthen HB2.out HXX.out⟩
                case measure => simp [intOf]; omega
              | succ p =>
                obtain ⟨d, hd⟩ : ∃ d, us[p]? = some d := ⟨_, List.getElem?_eq_getElem (by omega)⟩
                obtain ⟨bd, od, A4, cd, hAe, _, hbd, e0, e1, e2, hTd⟩ := HTX.out.at_ hd
                cases hAe
                have a0 : ∀ x : Later wr.heap.size wr, x.w.cell? ⟨ba, oa + (p + 1) * 3, none⟩ = some (.int .i64 a.k) := fun x => x.cell ((HB2.out.cell (p := ⟨ba, oa + (p + 1) * 3, none⟩) hba).trans HC0.out) (show ba < _ by omega)
                have a1 : ∀ x : Later wr.heap.size wr, x.w.cell? ⟨ba, oa + (p + 1) * 3 + 1, none⟩ = some (.int .i64 a.n) := fun x => x.cell ((HB2.out.cell (p := ⟨ba, oa + (p + 1) * 3 + 1, none⟩) hba).trans HC1.out) (show ba < _ by omega)
                have a2 : ∀ x : Later wr.heap.size wr, x.w.cell? ⟨ba, oa + (p + 1) * 3 + 2, none⟩ = some (.slice A2 a.args.length ca) := fun x => x.cell ((HB2.out.cell (p := ⟨ba, oa + (p + 1) * 3 + 2, none⟩) hba).trans HC2.out) (show ba < _ by omega)
                have d0 : ∀ x : Later wr.heap.size wr, x.w.cell? ⟨ba, oa + p * 3, none⟩ = some (.int .i64 d.k) := fun x => x.cell ((HB2.out.cell (p := ⟨ba, oa + p * 3, none⟩) hbd).trans e0) (show ba < _ by omega)
                have d1 : ∀ x : Later wr.heap.size wr, x.w.cell? ⟨ba, oa + p * 3 + 1, none⟩ = some (.int .i64 d.n) := fun x => x.cell ((HB2.out.cell (p := ⟨ba, oa + p * 3 + 1, none⟩) hbd).trans e1) (show ba < _ by omega)
                have d2 : ∀ x : Later wr.heap.size wr, x.w.cell? ⟨ba, oa + p * 3 + 2, none⟩ = some (.slice A4 d.args.length cd) := fun x => x.cell ((HB2.out.cell (p := ⟨ba, oa + p * 3 + 2, none⟩) hbd).trans e2) (show ba < _ by omega)
                have hga := HGD.out a (List.mem_of_getElem? HAA.out)
                have hgd := HGD.out d (List.mem_of_getElem? hd)
                have hca : Hid (∀ x : Later wr.heap.size wr, Calls Tryd.prog 28 #[.agg #[.int .i64 a.k, .int .i64 a.n, .slice A2 a.args.length ca]] x.w fun e w' => e = .returned (.string ⟨(txt a).toArray⟩) ∧ Below x.w.heap.size x.w w') := fun x =>
                  rText_any _ a _ x.w (Nat.le_refl _) hga.1 hga.2.1 ((HTA.out.bel HB2.out).bel x.2) ((HTABC.out.bel HB2.out).bel x.2)
                have hcd : Hid (∀ x : Later wr.heap.size wr, Calls Tryd.prog 28 #[.agg #[.int .i64 d.k, .int .i64 d.n, .slice A4 d.args.length cd]] x.w fun e w' => e = .returned (.string ⟨(txt d).toArray⟩) ∧ Below x.w.heap.size x.w w') := fun x =>
                  rText_any _ d _ x.w (Nat.le_refl _) hgd.1 hgd.2.1 ((hTd.bel HB2.out).bel x.2) ((HTABC.out.bel HB2.out).bel x.2)
                have hle : Op.bytesLess (txt d) (txt a) = true := HRI.out p d a hd HAA.out
                have hps : ((p + 1 : Nat) : Int) > 0 := by omega
                have hpp : ((p + 1 : Nat) : Int) - 1 = (p : Int) := by omega
                have hpl : p < us.length := by omega
                clear hd e0 e1 e2 hTd hsz hga hgd
                go_wp2_with fail
                refine wp_region_later wr.heap.size (by kernel_rfl) ?_
                repeat (first | go_big_quiet_step ((go_at_call 28; first | (with_reducible exact later_call (hca.out _) (Nat.le_refl _)) | (with_reducible exact later_call (hcd.out _) (Nat.le_refl _)))) | quiet_step ((go_at_call 28; first | (with_reducible exact later_call (hca.out _) (Nat.le_refl _)) | (with_reducible exact later_call (hcd.out _) (Nat.le_refl _)))))
                refine wpQuiet_nil (later_all ?_)
                intro wx hx
                have HXX := Lib.hid hx
                clear hx a0 a1 a2 d0 d1 d2 hca hcd
                go_wp2_with fail
                go_roundw
                case rel => exact ⟨p + 1 + 1, by go_num, by omega, bthen HB2.out HXX.out⟩
                case measure => simp [intOf]; omega
        · obtain rfl : j = us.length := by omega
          have hk := C12c.out wr HB.out
          go_wp2_with (go_at_call 12; refine hk.mono ?_; clear hk; rintro e w1 ⟨rfl, hb⟩; have HBE := Lib.hid hb; clear hb)
          go_ret
          exact ⟨rfl, bthen HBC.out (bthen HB.out HBE.out)⟩
end Go.Proofs.YtfhpnkmhppfeiaaDoor
