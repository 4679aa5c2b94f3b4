/- The law TermsSeals, walked. -/
import Derived.Test.YtfhpnkmhppfeiaaDoorR14
import Derived.Test.YtfhpnkmhppfeiaaDoorR15
import Derived.Test.YtfhpnkmhppfeiaaDoorR11
import Derived.Test.YtfhpnkmhppfeiaaDoorR7
set_option linter.unusedVariables false
set_option linter.unusedSimpArgs false
namespace Go.Proofs.YtfhpnkmhppfeiaaDoor
open Go.RowKit Go.Proofs
/-- The world within the law: the boxed content. -/
structure XW (w : World) (cx : Array Value) (wr : World) : Prop where
  hb : Below w.heap.size w wr
  hx : wr.heap[w.heap.size]? = some (.cells cx 25 (0, 0))
theorem XW.bel {w wr w1 : World} {cx : Array Value} (h : XW w cx wr) (hb : Below wr.heap.size wr w1) : XW w cx w1 :=
  ⟨bthen h.hb hb, (hb.block _ (Array.getElem?_eq_some_iff.1 h.hx).1).trans h.hx⟩
/-- Behind the making of the secrets and the seal. -/
structure SW (w : World) (B : Nat) (cx : Array Value) (x0 x1 x2 : Value) (n m : Int) (wr : World) : Prop where
  hb : Below w.heap.size w wr
  hB : w.heap.size < B
  hx : wr.heap[w.heap.size]? = some (.cells cx 25 (0, 0))
  h9 : wr.heap[B]? = some (.cells #[.int .i64 2, .int .i64 n, .slice none 0 0] 25 (0, 0))
  h10 : wr.heap[B + 1]? = some (.cells #[.int .i64 2, .int .i64 m, .slice none 0 0] 25 (0, 0))
  hs : wr.heap[B + 1 + 1]? = some (.cells #[.int .i64 2, .int .i64 n, .slice none 0 0, x0, x1, x2] 25 (0, 0))
  h11 : wr.heap[B + 1 + 1 + 1]? = some (.cells #[.int .i64 4, .int .i64 0, .slice (some ⟨B + 1 + 1, 0, none⟩) 2 2] 25 (0, 0))
theorem SW.bel {w wr w1 : World} {B : Nat} {cx : Array Value} {x0 x1 x2 : Value} {n m : Int} (h : SW w B cx x0 x1 x2 n m wr) (hb : Below wr.heap.size wr w1) : SW w B cx x0 x1 x2 n m w1 :=
  ⟨bthen h.hb hb, h.hB, (hb.block _ (Array.getElem?_eq_some_iff.1 h.hx).1).trans h.hx, (hb.block _ (Array.getElem?_eq_some_iff.1 h.h9).1).trans h.h9, (hb.block _ (Array.getElem?_eq_some_iff.1 h.h10).1).trans h.h10,
    (hb.block _ (Array.getElem?_eq_some_iff.1 h.hs).1).trans h.hs, (hb.block _ (Array.getElem?_eq_some_iff.1 h.h11).1).trans h.h11⟩
theorem SW.start {w w1 : World} {cx : Array Value} {x0 x1 x2 : Value} {n m : Int} (h : XW w cx w1) :
    SW w w1.heap.size cx x0 x1 x2 n m ((((w1.alloc (.cells #[.int .i64 2, .int .i64 n, .slice none 0 0] 25)).alloc (.cells #[.int .i64 2, .int .i64 m, .slice none 0 0] 25)).alloc (.cells #[.int .i64 2, .int .i64 n, .slice none 0 0, x0, x1, x2] 25)).alloc
      (.cells #[.int .i64 4, .int .i64 0, .slice (some ⟨w1.heap.size + 1 + 1, 0, none⟩) 2 2] 25)) := by
  have hl := (Array.getElem?_eq_some_iff.1 h.hx).1
  refine ⟨balloc (balloc (balloc (balloc h.hb _) _) _) _, hl, ?_, ?_, ?_, ?_, ?_⟩
  · rw [Below.heap_alloc _ _ _ (by simp <;> omega), Below.heap_alloc _ _ _ (by simp <;> omega), Below.heap_alloc _ _ _ (by simp <;> omega), Below.heap_alloc _ _ _ hl]; exact h.hx
  · rw [Below.heap_alloc _ _ _ (by simp <;> omega), Below.heap_alloc _ _ _ (by simp <;> omega), Below.heap_alloc _ _ _ (by simp)]; exact heap_alloc_new _ _
  · rw [Below.heap_alloc _ _ _ (by simp <;> omega), Below.heap_alloc _ _ _ (by simp)]; exact heap_alloc2 _ _ _
  · rw [Below.heap_alloc _ _ _ (by simp)]; exact heap_alloc3 _ _ _ _
  · have := heap_alloc_new (((w1.alloc (.cells #[.int .i64 2, .int .i64 n, .slice none 0 0] 25)).alloc (.cells #[.int .i64 2, .int .i64 m, .slice none 0 0] 25)).alloc (.cells #[.int .i64 2, .int .i64 n, .slice none 0 0, x0, x1, x2] 25)) (.cells #[.int .i64 4, .int .i64 0, .slice (some ⟨w1.heap.size + 1 + 1, 0, none⟩) 2 2] 25)
    simpa using this
theorem SW.away {w w1 w2 : World} {B N : Nat} {cx : Array Value} {x0 x1 x2 : Value} {n m : Int} (h : SW w B cx x0 x1 x2 n m w1) (hg : Grew (fun k => N ≤ k) w1 w2) (hN : B + 1 + 1 + 1 < N) : SW w B cx x0 x1 x2 n m w2 := by
  have hB := h.hB
  have h0 := h.hb.size
  exact ⟨h.hb.trans (hg.below h0 fun k hk => by omega), h.hB, hg.heap h.hx (by omega), hg.heap h.h9 (by omega), hg.heap h.h10 (by omega), hg.heap h.hs (by omega), hg.heap h.h11 (by omega)⟩
theorem TS.nil5 (w : World) (D : Nat → Prop) : TS w D [] (.slice none 0 0) := ⟨none, 0, fun _ => undef, rfl, Nat.le_refl 0, by omega, fun h => absurd h (by simp), fun j a h => by simp at h⟩
theorem TR.sec {w : World} {n : Int} (hn : i64 n) : TR w Any (.mk 2 n []) (.agg #[.int .i64 2, .int .i64 n, .slice none 0 0]) := TR.of (by unfold i64; omega) hn (TS.nil5 _ _)
theorem SW.seald {w wr : World} {B : Nat} {cx : Array Value} {x0 x1 x2 : Value} {n m : Int} {x : Tm} (h : SW w B cx x0 x1 x2 n m wr) (hn : i64 n) (hx : TR w Any x (.agg #[x0, x1, x2])) :
    TR wr Any (.mk 4 0 [.mk 2 n [], x]) (.agg #[.int .i64 4, .int .i64 0, .slice (some ⟨B + 1 + 1, 0, none⟩) 2 2]) :=
  TR.of (by unfold i64; omega) (by unfold i64; omega) (ts_two h.hs (TR.sec hn) (hx.bel h.hb))
theorem sizeM_gt5 {t : Tm} (h : 300 < size t) : ((sizeM t 301 : Nat) : Int) > 300 := by unfold sizeM; omega
theorem sizeM_le5 {t : Tm} (h : ¬ 300 < size t) : ((sizeM t 301 : Nat) : Int) ≤ 300 := by unfold sizeM; omega
set_option maxRecDepth 100000 in
set_option maxHeartbeats 8000000 in
theorem seals_any (L : List Tm) (n m : Int) (x : Tm) (vl vx : Value) (w : World) (hT : TS w Any L vl) (hn : i64 n) (hm : i64 m) (hX : TR w Any x vx) (hTab : Tab w) :
    Calls Tryd.prog 5 #[vl, .int .i64 n, .int .i64 m, vx] w fun e w' => e = .returned (.bool true) ∧ Below w.heap.size w w' := by
  obtain ⟨A, c, rfl, hc1, hc2⟩ := hT.form
  obtain ⟨Ax, cx, rfl⟩ := hX.form3
  have HT := Lib.hid hT
  have HXT := Lib.hid hX
  have HTab := Lib.hid hTab
  have HN := Lib.hid hn
  have HM := Lib.hid hm
  clear hT hX hTab hn hm
  have C12 : Hid (∀ w1, Below w.heap.size w w1 → Calls Tryd.prog 12 #[] w1 fun e w' => e = .returned (.bool true) ∧ Below w1.heap.size w1 w') := fun w1 hb => known_any w1 (HTab.out.bel hb)
  have C13 : Hid (∀ w1, Below w.heap.size w w1 → Calls Tryd.prog 13 #[.slice A L.length c] w1 fun e w' => e = .returned (.bool (muchS L)) ∧ Below w1.heap.size w1 w') := fun w1 hb => Much_any L _ w1 (HT.out.bel hb)
  have C15 : Hid (∀ w1, Below w.heap.size w w1 → Calls Tryd.prog 15 #[.slice A L.length c] w1 fun e w' => e = .returned (.bool (L.all may)) ∧ Below w1.heap.size w1 w') := fun w1 hb => all_any L _ w1 (HT.out.bel hb)
  have C14 : Hid (∀ w1, Below w.heap.size w w1 → Calls Tryd.prog 14 #[.agg #[.int .i64 x.k, .int .i64 x.n, .slice Ax x.args.length cx], .int .i64 301] w1 fun e w' => e = .returned (.int .i64 (sizeM x 301 : Nat)) ∧ Below w1.heap.size w1 w') := fun w1 hb => Size_any _ x _ 301 w1 (Nat.le_refl _) (by omega) (HXT.out.bel hb)
  have C16 : Hid (∀ w1, Below w.heap.size w w1 → Calls Tryd.prog 16 #[.agg #[.int .i64 x.k, .int .i64 x.n, .slice Ax x.args.length cx]] w1 fun e w' => e = .returned (.bool (may x)) ∧ Below w1.heap.size w1 w') := fun w1 hb => rMay_any x _ w1 (HXT.out.bel hb)
  have HX := Lib.hid (show XW w #[.int .i64 x.k, .int .i64 x.n, .slice Ax x.args.length cx] (w.alloc (.cells #[.int .i64 x.k, .int .i64 x.n, .slice Ax x.args.length cx] 25)) from ⟨bself w _, heap_alloc_new _ _⟩)
  obtain ⟨W2, hW2⟩ : ∃ W2 : World, W2 = w.alloc (.cells #[.int .i64 x.k, .int .i64 x.n, .slice Ax x.args.length cx] 25) := ⟨_, rfl⟩
  rw [← hW2] at HX
  go_enter Tryd.func5, Tryd.ntmps5
  go_wp2_with fail
  rw [← hW2]
  clear hW2
  have r0 := (blk_cell HX.out.hx 0).trans rfl; have r1 := (blk_cell HX.out.hx 1).trans rfl; have r2 := (blk_cell HX.out.hx 2).trans rfl
  cases h1 : muchS L with
  | true =>
    go_wp2_with (first
      | (go_at_call 12; with_reducible refine (C12.out _ HX.out.hb).mono ?_; rintro e w1 ⟨rfl, hb⟩; have HX := Lib.hid (HX.out.bel hb); clear hb r0 r1 r2; have r0 := (blk_cell HX.out.hx 0).trans rfl; have r1 := (blk_cell HX.out.hx 1).trans rfl; have r2 := (blk_cell HX.out.hx 2).trans rfl)
      | (go_at_call 13; with_reducible refine (C13.out _ HX.out.hb).mono ?_; rintro e w1 ⟨rfl, hb⟩; have HX := Lib.hid (HX.out.bel hb); clear hb r0 r1 r2; have r0 := (blk_cell HX.out.hx 0).trans rfl; have r1 := (blk_cell HX.out.hx 1).trans rfl; have r2 := (blk_cell HX.out.hx 2).trans rfl))
    go_ret
    exact ⟨rfl, HX.out.hb⟩
  | false =>
  have HMU := Lib.hid (muchS_no h1)
  cases h4 : L.all may with
  | false =>
    go_wp2_with (first
      | (go_at_call 12; with_reducible refine (C12.out _ HX.out.hb).mono ?_; rintro e w1 ⟨rfl, hb⟩; have HX := Lib.hid (HX.out.bel hb); clear hb r0 r1 r2; have r0 := (blk_cell HX.out.hx 0).trans rfl; have r1 := (blk_cell HX.out.hx 1).trans rfl; have r2 := (blk_cell HX.out.hx 2).trans rfl)
      | (go_at_call 13; with_reducible refine (C13.out _ HX.out.hb).mono ?_; rintro e w1 ⟨rfl, hb⟩; have HX := Lib.hid (HX.out.bel hb); clear hb r0 r1 r2; have r0 := (blk_cell HX.out.hx 0).trans rfl; have r1 := (blk_cell HX.out.hx 1).trans rfl; have r2 := (blk_cell HX.out.hx 2).trans rfl)
      | (go_at_call 15; with_reducible refine (C15.out _ HX.out.hb).mono ?_; rintro e w1 ⟨rfl, hb⟩; have HX := Lib.hid (HX.out.bel hb); clear hb r0 r1 r2; have r0 := (blk_cell HX.out.hx 0).trans rfl; have r1 := (blk_cell HX.out.hx 1).trans rfl; have r2 := (blk_cell HX.out.hx 2).trans rfl))
    go_ret
    exact ⟨rfl, HX.out.hb⟩
  | true =>
  by_cases h5 : n < 0
  · go_wp2_with (first
      | (go_at_call 12; with_reducible refine (C12.out _ HX.out.hb).mono ?_; rintro e w1 ⟨rfl, hb⟩; have HX := Lib.hid (HX.out.bel hb); clear hb r0 r1 r2; have r0 := (blk_cell HX.out.hx 0).trans rfl; have r1 := (blk_cell HX.out.hx 1).trans rfl; have r2 := (blk_cell HX.out.hx 2).trans rfl)
      | (go_at_call 13; with_reducible refine (C13.out _ HX.out.hb).mono ?_; rintro e w1 ⟨rfl, hb⟩; have HX := Lib.hid (HX.out.bel hb); clear hb r0 r1 r2; have r0 := (blk_cell HX.out.hx 0).trans rfl; have r1 := (blk_cell HX.out.hx 1).trans rfl; have r2 := (blk_cell HX.out.hx 2).trans rfl)
      | (go_at_call 15; with_reducible refine (C15.out _ HX.out.hb).mono ?_; rintro e w1 ⟨rfl, hb⟩; have HX := Lib.hid (HX.out.bel hb); clear hb r0 r1 r2; have r0 := (blk_cell HX.out.hx 0).trans rfl; have r1 := (blk_cell HX.out.hx 1).trans rfl; have r2 := (blk_cell HX.out.hx 2).trans rfl))
    go_ret
    exact ⟨rfl, HX.out.hb⟩
  by_cases h6 : m < 0
  · go_wp2_with (first
      | (go_at_call 12; with_reducible refine (C12.out _ HX.out.hb).mono ?_; rintro e w1 ⟨rfl, hb⟩; have HX := Lib.hid (HX.out.bel hb); clear hb r0 r1 r2; have r0 := (blk_cell HX.out.hx 0).trans rfl; have r1 := (blk_cell HX.out.hx 1).trans rfl; have r2 := (blk_cell HX.out.hx 2).trans rfl)
      | (go_at_call 13; with_reducible refine (C13.out _ HX.out.hb).mono ?_; rintro e w1 ⟨rfl, hb⟩; have HX := Lib.hid (HX.out.bel hb); clear hb r0 r1 r2; have r0 := (blk_cell HX.out.hx 0).trans rfl; have r1 := (blk_cell HX.out.hx 1).trans rfl; have r2 := (blk_cell HX.out.hx 2).trans rfl)
      | (go_at_call 15; with_reducible refine (C15.out _ HX.out.hb).mono ?_; rintro e w1 ⟨rfl, hb⟩; have HX := Lib.hid (HX.out.bel hb); clear hb r0 r1 r2; have r0 := (blk_cell HX.out.hx 0).trans rfl; have r1 := (blk_cell HX.out.hx 1).trans rfl; have r2 := (blk_cell HX.out.hx 2).trans rfl))
    go_ret
    exact ⟨rfl, HX.out.hb⟩
  by_cases h2 : 300 < size x
  · have e2 := sizeM_gt5 h2
    clear h2
    go_wp2_with (first
      | (go_at_call 12; with_reducible refine (C12.out _ HX.out.hb).mono ?_; rintro e w1 ⟨rfl, hb⟩; have HX := Lib.hid (HX.out.bel hb); clear hb r0 r1 r2; have r0 := (blk_cell HX.out.hx 0).trans rfl; have r1 := (blk_cell HX.out.hx 1).trans rfl; have r2 := (blk_cell HX.out.hx 2).trans rfl)
      | (go_at_call 13; with_reducible refine (C13.out _ HX.out.hb).mono ?_; rintro e w1 ⟨rfl, hb⟩; have HX := Lib.hid (HX.out.bel hb); clear hb r0 r1 r2; have r0 := (blk_cell HX.out.hx 0).trans rfl; have r1 := (blk_cell HX.out.hx 1).trans rfl; have r2 := (blk_cell HX.out.hx 2).trans rfl)
      | (go_at_call 15; with_reducible refine (C15.out _ HX.out.hb).mono ?_; rintro e w1 ⟨rfl, hb⟩; have HX := Lib.hid (HX.out.bel hb); clear hb r0 r1 r2; have r0 := (blk_cell HX.out.hx 0).trans rfl; have r1 := (blk_cell HX.out.hx 1).trans rfl; have r2 := (blk_cell HX.out.hx 2).trans rfl)
      | (go_at_call 14; with_reducible refine (C14.out _ HX.out.hb).mono ?_; rintro e w1 ⟨rfl, hb⟩; have HX := Lib.hid (HX.out.bel hb); clear hb r0 r1 r2; have r0 := (blk_cell HX.out.hx 0).trans rfl; have r1 := (blk_cell HX.out.hx 1).trans rfl; have r2 := (blk_cell HX.out.hx 2).trans rfl))
    go_ret
    exact ⟨rfl, HX.out.hb⟩
  have e2 := sizeM_le5 h2
  cases h7 : may x with
  | false =>
    clear h2
    go_wp2_with (first
      | (go_at_call 12; with_reducible refine (C12.out _ HX.out.hb).mono ?_; rintro e w1 ⟨rfl, hb⟩; have HX := Lib.hid (HX.out.bel hb); clear hb r0 r1 r2; have r0 := (blk_cell HX.out.hx 0).trans rfl; have r1 := (blk_cell HX.out.hx 1).trans rfl; have r2 := (blk_cell HX.out.hx 2).trans rfl)
      | (go_at_call 13; with_reducible refine (C13.out _ HX.out.hb).mono ?_; rintro e w1 ⟨rfl, hb⟩; have HX := Lib.hid (HX.out.bel hb); clear hb r0 r1 r2; have r0 := (blk_cell HX.out.hx 0).trans rfl; have r1 := (blk_cell HX.out.hx 1).trans rfl; have r2 := (blk_cell HX.out.hx 2).trans rfl)
      | (go_at_call 15; with_reducible refine (C15.out _ HX.out.hb).mono ?_; rintro e w1 ⟨rfl, hb⟩; have HX := Lib.hid (HX.out.bel hb); clear hb r0 r1 r2; have r0 := (blk_cell HX.out.hx 0).trans rfl; have r1 := (blk_cell HX.out.hx 1).trans rfl; have r2 := (blk_cell HX.out.hx 2).trans rfl)
      | (go_at_call 14; with_reducible refine (C14.out _ HX.out.hb).mono ?_; rintro e w1 ⟨rfl, hb⟩; have HX := Lib.hid (HX.out.bel hb); clear hb r0 r1 r2; have r0 := (blk_cell HX.out.hx 0).trans rfl; have r1 := (blk_cell HX.out.hx 1).trans rfl; have r2 := (blk_cell HX.out.hx 2).trans rfl)
      | (go_at_call 16; with_reducible refine (C16.out _ HX.out.hb).mono ?_; rintro e w1 ⟨rfl, hb⟩; have HX := Lib.hid (HX.out.bel hb); clear hb r0 r1 r2; have r0 := (blk_cell HX.out.hx 0).trans rfl; have r1 := (blk_cell HX.out.hx 1).trans rfl; have r2 := (blk_cell HX.out.hx 2).trans rfl))
    go_ret
    exact ⟨rfl, HX.out.hb⟩
  | true =>
  have HALL : Hid (∀ t ∈ L, may t = true) := fun t ht => by rw [List.all_eq_true] at h4; exact h4 t ht
  have HSX : Hid (size x ≤ 300 ∧ may x = true) := ⟨by omega, h7⟩
  clear h2
  have hms : may (.mk 4 0 [.mk 2 n [], x]) = true := by
    obtain ⟨f1, f2⟩ := (may_iff x).1 h7
    refine (may_iff _).2 ⟨?_, by have := HSX.out.1; simp only [size, sizeL]; omega⟩
    rw [form_two (by omega) (by omega), f1, Bool.and_true]
    simp [form, formL, headOK, isKind, arity]; omega
  have hmn : may (.mk 2 n []) = true := (may_iff _).2 ⟨by simp [form, formL, headOK, isKind, arity]; omega, by simp [size, sizeL]⟩
  have HMN := Lib.hid hmn
  have HMS := Lib.hid hms
  have CMS : Hid (∀ wr B, SW w B #[.int .i64 x.k, .int .i64 x.n, .slice Ax x.args.length cx] (.int .i64 x.k) (.int .i64 x.n) (.slice Ax x.args.length cx) n m wr → Calls Tryd.prog 16 #[.agg #[.int .i64 4, .int .i64 0, .slice (some ⟨B + 1 + 1, 0, none⟩) 2 2]] wr fun e w' => e = .returned (.bool true) ∧ Below wr.heap.size wr w') := fun wr B h => by
    have := rMay_any _ _ wr (h.seald HN.out HXT.out)
    rwa [hms] at this
  clear hms hmn
  go_wp2_with (first
    | (go_at_call 12; with_reducible refine (C12.out _ HX.out.hb).mono ?_; rintro e w1 ⟨rfl, hb⟩; have HX := Lib.hid (HX.out.bel hb); clear hb r0 r1 r2; have r0 := (blk_cell HX.out.hx 0).trans rfl; have r1 := (blk_cell HX.out.hx 1).trans rfl; have r2 := (blk_cell HX.out.hx 2).trans rfl)
    | (go_at_call 13; with_reducible refine (C13.out _ HX.out.hb).mono ?_; rintro e w1 ⟨rfl, hb⟩; have HX := Lib.hid (HX.out.bel hb); clear hb r0 r1 r2; have r0 := (blk_cell HX.out.hx 0).trans rfl; have r1 := (blk_cell HX.out.hx 1).trans rfl; have r2 := (blk_cell HX.out.hx 2).trans rfl)
    | (go_at_call 15; with_reducible refine (C15.out _ HX.out.hb).mono ?_; rintro e w1 ⟨rfl, hb⟩; have HX := Lib.hid (HX.out.bel hb); clear hb r0 r1 r2; have r0 := (blk_cell HX.out.hx 0).trans rfl; have r1 := (blk_cell HX.out.hx 1).trans rfl; have r2 := (blk_cell HX.out.hx 2).trans rfl)
    | (go_at_call 14; with_reducible refine (C14.out _ HX.out.hb).mono ?_; rintro e w1 ⟨rfl, hb⟩; have HX := Lib.hid (HX.out.bel hb); clear hb r0 r1 r2; have r0 := (blk_cell HX.out.hx 0).trans rfl; have r1 := (blk_cell HX.out.hx 1).trans rfl; have r2 := (blk_cell HX.out.hx 2).trans rfl)
    | (go_at_call 16; with_reducible refine (C16.out _ HX.out.hb).mono ?_; rintro e w1 ⟨rfl, hb⟩; have HX := Lib.hid (HX.out.bel hb); clear hb r0 r1 r2; have r0 := (blk_cell HX.out.hx 0).trans rfl; have r1 := (blk_cell HX.out.hx 1).trans rfl; have r2 := (blk_cell HX.out.hx 2).trans rfl; have s0 : w.heap.size < w1.heap.size := (Array.getElem?_eq_some_iff.1 HX.out.hx).1; have s1 : w.heap.size < w1.heap.size + 1 := (by omega); have s2 : w.heap.size < w1.heap.size + 1 + 1 := (by omega); have s3 : w.heap.size < w1.heap.size + 1 + 1 + 1 := (by omega))
    | (go_at_call 16; refine (CMS.out _ _ (SW.start HX.out)).mono ?_; rintro e w5 ⟨rfl, hb⟩; have HSW := Lib.hid ((SW.start (x0 := .int .i64 x.k) (x1 := .int .i64 x.n) (x2 := .slice Ax x.args.length cx) (n := n) (m := m) HX.out).bel hb); clear hb))
  clear h4 h7 HX r0 r1 r2 s0 s1 s2 s3 e2
  obtain ⟨B, hB⟩ : ∃ B, B = w1.heap.size := ⟨_, rfl⟩
  rw [← hB] at HSW ⊢
  clear hB
  go_loopw [12] (fun i wr => ∃ (j : Nat), i = .int .i64 j ∧ j ≤ L.length ∧ Hid (SW w B #[.int .i64 x.k, .int .i64 x.n, .slice Ax x.args.length cx] (.int .i64 x.k) (.int .i64 x.n) (.slice Ax x.args.length cx) n m wr) ∧ Hid (∀ i t, i < j → L[i]? = some t → ord (.mk 4 0 [.mk 2 n [], x]) ∉ subs (ord t))) (fun i _ => L.length - (intOf i).toNat)
  case atStart => exact ⟨0, rfl, Nat.zero_le _, HSW, fun i t h => absurd h (Nat.not_lt_zero _)⟩
  case round =>
    clear HSW
    obtain ⟨j, rfl, hj, HSW, HNO⟩ := hrel
    by_cases hlt : j < L.length
    · obtain ⟨a, ha⟩ : ∃ a, L[j]? = some a := ⟨_, List.getElem?_eq_getElem hlt⟩
      obtain ⟨b, o, A2, cc, rfl, _, hbs, c0, c1, c2, hTa⟩ := HT.out.at_ ha
      have d0 := (HSW.out.hb.cell (p := ⟨b, o + j * 3, none⟩) hbs).trans c0
      have d1 := (HSW.out.hb.cell (p := ⟨b, o + j * 3 + 1, none⟩) hbs).trans c1
      have d2 := (HSW.out.hb.cell (p := ⟨b, o + j * 3 + 2, none⟩) hbs).trans c2
      obtain ⟨f1, f2⟩ := (may_iff a).1 (HALL.out a (List.mem_of_getElem? ha))
      have hor := rOrder_any _ a _ wr (Nat.le_refl _) f1 f2 (hTa.bel HSW.out.hb) (HTab.out.bel HSW.out.hb)
      have HSZ : Hid (size (ord a) ≤ 2000) := by unfold Hid; rw [size_ord]; exact f2
      have HAA := Lib.hid ha
      clear ha c0 c1 c2 hTa f1 f2
      obtain ⟨us, hus⟩ : ∃ us, us = subs (ord a) := ⟨_, rfl⟩
      have HUS := Lib.hid hus
      clear hus
      go_wp2_with (first
        | (go_at_call 18; refine hor.mono ?_; clear hor; rintro e w2 ⟨vo, rfl, hTo, hb⟩; obtain ⟨Ao, co, rfl⟩ := hTo.form3; have HS2 := Lib.hid (HSW.out.bel hb); have HTO := Lib.hid hTo.any.past; clear hb hTo)
        | (go_at_call 20; refine (show Calls Tryd.prog 20 _ w2 (WalkR w2 w2.heap.size (.slice none 0 0) us) from HUS.out ▸ walk_any w2.heap.size _ (ord a) _ (.slice none 0 0) [] [] w2 (Nat.le_refl _) HTO.out (World.ownsRow_nil _ _ _ _) (fun j t h => (by simp at h)) (Nat.le_refl _) (by have := HSZ.out; simp; omega)).mono ?_; rintro e w3 ⟨vw, cs, rfl, hO, hC, hG, _⟩; obtain ⟨Aw, cw, rfl, _, _⟩ := own_form hO; have HTW := Lib.hid (CT.ts hO hC); have HS3 := Lib.hid (HS2.out.bel (hG.below (n := w2.heap.size) (Nat.le_refl _) (fun k hk => (by cases hk)))); clear hO hC hG))
      clear HSW
      go_loopw [14] (fun i wr => ∃ (q : Nat), i = .int .i64 q ∧ q ≤ us.length ∧ Hid (SW w B #[.int .i64 x.k, .int .i64 x.n, .slice Ax x.args.length cx] (.int .i64 x.k) (.int .i64 x.n) (.slice Ax x.args.length cx) n m wr) ∧ Hid (TS wr Any us (.slice Aw us.length cw)) ∧ Hid (∀ i t, i < q → us[i]? = some t → t ≠ ord (.mk 4 0 [.mk 2 n [], x]))) (fun i _ => us.length - (intOf i).toNat)
      case atStart => exact ⟨0, rfl, Nat.zero_le _, HS3, HTW, fun i t h => absurd h (Nat.not_lt_zero _)⟩
      case round =>
        clear HS3 HTW HS2 HTO
        obtain ⟨q, rfl, hq, HSW, HTW, HNE⟩ := hrel
        by_cases hlt2 : q < us.length
        · obtain ⟨y, hy⟩ : ∃ y, us[q]? = some y := ⟨_, List.getElem?_eq_getElem hlt2⟩
          obtain ⟨b2, o2, A3, c3, rfl, _, hbs2, e0, e1, e2, hTy⟩ := HTW.out.at_ hy
          have E0 := Lib.hid e0
          have E1 := Lib.hid e1
          have E2 := Lib.hid e2
          have HTY := Lib.hid hTy
          have HY := Lib.hid hy
          clear e0 e1 e2 hTy hy
          go_wp2_with fail
          refine wp_region_post 7 (R := fun _ => Grew None_) (B := fun _ _ => True) (C := Grew (None_) wr)
            [fun v _ => v = .slice (some ⟨b2, o2, none⟩) us.length cw,
              fun v _ => v = .int .i64 q,
              fun v _ => v = .pointer (some ⟨b2, o2 + q * 3, none⟩),
              fun v _ => v = .agg #[.int .i64 y.k, .int .i64 y.n, .slice A3 y.args.length c3],
              fun v _ => v = .agg #[.int .i64 4, .int .i64 0, .slice (some ⟨B + 1 + 1, 0, none⟩) 2 2],
              fun v w' => TR w' Any (ord (.mk 4 0 [.mk 2 n [], x])) v,
              fun v _ => v = .bool (eqT y (ord (.mk 4 0 [.mk 2 n [], x])))]
            [[], [], [0, 1], [2], [], [4], [3, 5]] (by kernel_rfl) (by kernel_rfl) (by kernel_rfl) (fun _ _ _ _ h h' => h.trans h') ?_ (fun _ _ _ _ _ _ _ _ _ _ _ => trivial) (Grew.drew _ _) (fun _ _ => trivial) ?_ ?_
          · intro i j v w1 w2 _ _ _ hg
            refine lasts ?_ j v
            simp only [List.forall_mem_cons, List.not_mem_nil, false_implies, implies_true, and_true]
            refine ⟨fun _ h => h, fun _ h => h, fun _ h => h, fun _ h => h, fun _ h => h, fun _ h => h.grew hg fun _ _ h => h.elim, fun _ h => h⟩
          · intro vals
            simp only [List.take_succ_cons, List.take_zero, Steps_, List.headD_cons, List.tail_cons, List.forall_mem_cons, List.not_mem_nil, false_implies, implies_true, and_true, List.getD_cons_zero, List.getD_cons_succ, Act.put, List.setIfInBounds_toArray, List.set_cons_zero, List.set_cons_succ, Nat.zero_add, Nat.reduceAdd]
            refine ⟨?_, ?_, ?_, ?_, ?_, ?_, ?_⟩
            · rintro w1 hC _ _
              go_wp2_with fail
              exact ⟨_, rfl, Grew.refl _ _, rfl⟩
            · rintro w1 hC _ _
              go_wp2_with fail
              exact ⟨_, rfl, Grew.refl _ _, rfl⟩
            · rintro w1 hC _ ⟨h0, h1⟩
              rw [h0, h1]
              go_wp2_with fail
              exact ⟨_, rfl, Grew.refl _ _, rfl⟩
            · rintro w1 hC _ h2
              rw [h2]
              have q0 := hC.cell (p := ⟨b2, o2 + q * 3, none⟩) E0.out fun h => h.elim
              have q1 := hC.cell (p := ⟨b2, o2 + q * 3 + 1, none⟩) E1.out fun h => h.elim
              have q2 := hC.cell (p := ⟨b2, o2 + q * 3 + 2, none⟩) E2.out fun h => h.elim
              go_wp2_with fail
              exact ⟨_, rfl, Grew.refl _ _, rfl⟩
            · rintro w1 hC _ _
              have hh := (HSW.out.bel hC.all).h11
              have q0 := (blk_cell hh 0).trans rfl
              have q1 := (blk_cell hh 1).trans rfl
              have q2 := (blk_cell hh 2).trans rfl
              clear hh
              go_wp2_with fail
              exact ⟨_, rfl, Grew.refl _ _, rfl⟩
            · rintro w1 hC _ h4
              have hsw := HSW.out.bel hC.all
              have hor2 := rOrder_any _ (.mk 4 0 [.mk 2 n [], x]) _ w1 (Nat.le_refl _) ((may_iff _).1 HMS.out).1 ((may_iff _).1 HMS.out).2 (hsw.seald HN.out HXT.out) (HTab.out.bel hsw.hb)
              clear hsw
              rw [h4]
              go_wp2_with (go_at_call 18; refine hor2.mono ?_; clear hor2; rintro e w2 ⟨v2, rfl, hT2, hb2⟩)
              exact ⟨_, rfl, Grew.of_below hb2, hT2.any⟩
            · rintro w1 hC _ ⟨h3, h5⟩
              obtain ⟨A5, c5, e5⟩ := h5.form3
              have h5x := h5
              rw [e5] at h5x ⊢
              have heq := Equal_any _ y (ord (.mk 4 0 [.mk 2 n [], x])) _ _ w1 (Nat.le_refl _) (HTY.out.bel hC.all) h5x
              clear h5 h5x e5
              rw [h3]
              go_wp2_with (go_at_call 21; refine heq.mono ?_; clear heq; rintro e w2 ⟨rfl, hb2⟩)
              exact ⟨_, rfl, Grew.of_below hb2, rfl⟩
          · intro vals w1 hC hv
            have x0 : vals 0 = .slice (some ⟨b2, o2, none⟩) us.length cw := hv 0 (by omega)
            have x1 : vals 1 = .int .i64 q := hv 1 (by omega)
            have x2 : vals 2 = .pointer (some ⟨b2, o2 + q * 3, none⟩) := hv 2 (by omega)
            have x3 : vals 3 = .agg #[.int .i64 y.k, .int .i64 y.n, .slice A3 y.args.length c3] := hv 3 (by omega)
            have x4 : vals 4 = .agg #[.int .i64 4, .int .i64 0, .slice (some ⟨B + 1 + 1, 0, none⟩) 2 2] := hv 4 (by omega)
            have x6 : vals 6 = .bool (eqT y (ord (.mk 4 0 [.mk 2 n [], x]))) := hv 6 (by omega)
            simp only [List.take_succ_cons, List.take_zero, List.drop_succ_cons, List.drop_zero, List.drop_nil, lexA, Act.put, List.setIfInBounds_toArray, List.set_cons_zero, List.set_cons_succ, Nat.zero_add, Nat.reduceAdd, x0, x1, x2, x3, x4, x6]
            clear x0 x1 x2 x3 x4 x6 hv
            have HSW := Lib.hid (HSW.out.bel hC.all)
            have HTW := Lib.hid (HTW.out.bel hC.all)
            generalize vals 5 = z5
            cases hz : eqT y (ord (.mk 4 0 [.mk 2 n [], x])) with
            | true =>
              go_wp2_with (go_at_call 12; with_reducible refine (C12.out _ HSW.out.hb).mono ?_; rintro e w1 ⟨rfl, hb⟩; have HSW := Lib.hid (HSW.out.bel hb); clear hb)
              go_ret
              exact ⟨rfl, HSW.out.hb⟩
            | false =>
              have HZ := Lib.hid hz
              clear hz
              go_wp2_with fail
              go_roundw
              case rel =>
                refine ⟨q + 1, by go_num, by omega, HSW, HTW, fun i t hi ht => ?_⟩
                rcases Nat.lt_succ_iff_lt_or_eq.1 hi with h | rfl
                · exact HNE.out i t h ht
                · rw [HY.out] at ht
                  cases ht
                  intro e
                  have := (eqT_iff y _).2 e
                  rw [HZ.out] at this; cases this
              case measure => simp [intOf]; omega
        · obtain rfl : q = us.length := by omega
          go_wp2_with fail
          go_roundw
          case rel =>
            refine ⟨j + 1, by go_num, by omega, HSW, fun i t hi ht => ?_⟩
            rcases Nat.lt_succ_iff_lt_or_eq.1 hi with h | rfl
            · exact HNO.out i t h ht
            · rw [HAA.out] at ht
              cases ht
              intro hmem
              rw [← HUS.out] at hmem
              obtain ⟨i, hi⟩ := List.getElem?_of_mem hmem
              exact HNE.out i _ (List.getElem?_eq_some_iff.1 hi).1 hi rfl
          case measure => simp [intOf]; omega
    · obtain rfl : j = L.length := by omega
      go_wp2_with fail
      refine wp_region_post 4 (R := fun _ => Grew None_) (B := fun _ _ => True) (C := Grew (None_) wr)
        [fun v _ => v = .slice A L.length c,
          fun v w' => ∃ cs, w'.ownsRow wr.heap.size 25 3 v L.length cs ∧ CT w' (fun b => b < wr.heap.size) L cs,
          fun v _ => v = .agg #[.int .i64 4, .int .i64 0, .slice (some ⟨B + 1 + 1, 0, none⟩) 2 2],
          fun v w' => ∃ g', v = .slice (some ⟨g', 0, none⟩) 1 1 ∧ w'.heap[g']? = some (.cells #[.int .i64 4, .int .i64 0, .slice (some ⟨B + 1 + 1, 0, none⟩) 2 2] 25 (0, 0))]
        [[], [0], [], [2]] (by kernel_rfl) (by kernel_rfl) (by kernel_rfl) (fun _ _ _ _ h h' => h.trans h') ?_ (fun _ _ _ _ _ _ _ _ _ _ _ => trivial) (Grew.drew _ _) (fun _ _ => trivial) ?_ ?_
      · intro i j v w1 w2 _ _ _ hg
        refine lasts ?_ j v
        simp only [List.forall_mem_cons, List.not_mem_nil, false_implies, implies_true, and_true]
        refine ⟨fun _ h => h, fun _ ⟨cs, h1, h2⟩ => ⟨cs, own_grew h1 hg (fun _ _ h => h.elim), h2.bel hg.all⟩, fun _ h => h, fun _ ⟨g', h1, h2⟩ => ⟨g', h1, hg.heap h2 fun h => h.elim⟩⟩
      · intro vals
        simp only [List.take_succ_cons, List.take_zero, Steps_, List.headD_cons, List.tail_cons, List.forall_mem_cons, List.not_mem_nil, false_implies, implies_true, and_true, List.getD_cons_zero, List.getD_cons_succ, Act.put, List.setIfInBounds_toArray, List.set_cons_zero, List.set_cons_succ, Nat.zero_add, Nat.reduceAdd]
        refine ⟨?_, ?_, ?_, ?_⟩
        · rintro w1 hC _ _
          go_wp2_with fail
          exact ⟨_, rfl, Grew.refl _ _, rfl⟩
        · rintro w1 hC _ h0
          rw [h0]
          have HTL := Lib.hid ((HT.out.bel HSW.out.hb).past.bel hC.all)
          have hcs := hC.size
          go_wp2_with (at_builtin; refine wpList_append_terms rfl _ _ rfl wr.heap.size (fun b => b < wr.heap.size) L rfl rfl HTL.out ?_ hcs ?_; rotate_right; intro v2 w2 cs h1 h2 h3; have H1 := Lib.hid h1; have H2 := Lib.hid h2; have H3 := Lib.hid h3; clear h1 h2 h3)
          · exact ⟨_, rfl, Grew.of_grownBy H3.out (fun k hk => by cases hk), cs, H1.out, H2.out⟩
          · have := HMU.out.1; omega
        · rintro w1 hC _ _
          have hh := (HSW.out.bel hC.all).h11
          have q0 := (blk_cell hh 0).trans rfl
          have q1 := (blk_cell hh 1).trans rfl
          have q2 := (blk_cell hh 2).trans rfl
          clear hh
          go_wp2_with fail
          exact ⟨_, rfl, Grew.refl _ _, rfl⟩
        · rintro w1 hC _ h2
          rw [h2]
          go_wp2_with fail
          exact ⟨_, rfl, Grew.alloc _ _ _, w1.heap.size, rfl, heap_alloc_new _ _⟩
      · intro vals w1 hC hv
        have x0 : vals 0 = .slice A L.length c := hv 0 (by omega)
        generalize hgoal : wpList _ _ _ _ _ _ = G; obtain ⟨cs, hcs, hct⟩ : ∃ cs, w1.ownsRow wr.heap.size 25 3 (vals 1) L.length cs ∧ CT w1 (fun b => b < wr.heap.size) L cs := hv 1 (by omega); obtain ⟨A9, c9, x1, _, _⟩ := own_form hcs; rw [x1] at hcs; subst hgoal
        have x2 : vals 2 = .agg #[.int .i64 4, .int .i64 0, .slice (some ⟨B + 1 + 1, 0, none⟩) 2 2] := hv 2 (by omega)
        generalize hgoal : wpList _ _ _ _ _ _ = G; obtain ⟨g', x3, hgh⟩ : ∃ g', vals 3 = .slice (some ⟨g', 0, none⟩) 1 1 ∧ w1.heap[g']? = some (.cells #[.int .i64 4, .int .i64 0, .slice (some ⟨B + 1 + 1, 0, none⟩) 2 2] 25 (0, 0)) := hv 3 (by omega); subst hgoal
        simp only [List.take_succ_cons, List.take_zero, List.drop_succ_cons, List.drop_zero, List.drop_nil, lexA, Act.put, List.setIfInBounds_toArray, List.set_cons_zero, List.set_cons_succ, Nat.zero_add, Nat.reduceAdd, x0, x1, x2, x3]
        clear x0 x1 x2 x3 hv
        have HCS := Lib.hid hcs
        have HCT := Lib.hid hct
        have HGH := Lib.hid hgh
        have HSW1 := Lib.hid (HSW.out.bel hC.all)
        have HS1 := Lib.hid hC.size
        have HSL := Lib.hid (((HSW.out.seald HN.out HXT.out).past).bel hC.all)
        have HBN : Hid (B + 1 + 1 + 1 < wr.heap.size) := (Array.getElem?_eq_some_iff.1 HSW.out.h11).1
        clear hcs hct hgh
        obtain ⟨i0, hi, hz0, hz1, hz2⟩ := info_parts info25
        go_wp2_with (at_builtin; refine wpList_append_own_at _ rfl _ _ 22 rfl wr.heap.size 25 i0 _ 3 40 Tryd.underlying22 hi hz0 hz1 hz2 rfl (by decide) (.slice A9 L.length c9) _ cs rfl HCS.out ⟨g', 0, none⟩ 1 1 [.int .i64 4, .int .i64 0, .slice (some ⟨B + 1 + 1, 0, none⟩) 2 2] rfl rfl (news3 HGH.out) (ones3 _ _ _ _ _) ?_ ?_ ?_ ?_; rotate_right; intro v2 w2 hown2 hg2 _ hloc; have HG2 := Lib.hid hg2; have HOW2 := Lib.hid hown2; clear hg2 hown2 hloc; obtain ⟨A8, c8, rfl, _, _⟩ := own_form HOW2.out; have HGR : Hid (Grew (fun k => wr.heap.size ≤ k) w1 w2) := Grew.of_grownBy HG2.out (own_base HCS.out); have HSW := Lib.hid (HSW1.out.away HGR.out HBN.out); have q0 := (blk_cell HSW.out.h9 0).trans rfl; have q1 := (blk_cell HSW.out.h9 1).trans rfl; have q2 := (blk_cell HSW.out.h9 2).trans rfl)
        · have HTB : Hid (TS w2 Any (L ++ [(.mk 4 0 [.mk 2 n [], x])]) (.slice A8 (L.length + 1) c8)) := by
            refine CT.ts (base := wr.heap.size) (D := fun b => b < wr.heap.size) (cs := cs ++ [.int .i64 4, .int .i64 0, .slice (some ⟨B + 1 + 1, 0, none⟩) 2 2]) (by simpa using HOW2.out) ?_
            exact (HCT.out.grew HGR.out fun k h1 h2 => by omega).snoc HCS.out.1 (HSL.out.grew HGR.out fun k h1 h2 => by omega)
          have hlm : mayL (L ++ [(.mk 4 0 [.mk 2 n [], x])]) = true := mayL_iff.2 ⟨by have := HMU.out.1; simp; omega, fun t ht => by
            rcases List.mem_append.1 ht with h | h
            · exact HALL.out t h
            · rw [List.mem_singleton] at h; subst h; exact HMS.out⟩
          have HOP : Hid (canS L (.mk 2 n []) = true → canS (L ++ [(.mk 4 0 [.mk 2 n [], x])]) x = true) := fun h => canS_open hlm HSX.out.2 h
          have HSE : Hid (canS L (.mk 2 n []) = false → canS (L ++ [(.mk 4 0 [.mk 2 n [], x])]) (.mk 2 m []) = canS L (.mk 2 m [])) := fun h => canS_seal (by omega) hlm h HMN.out fun u hu => by
            obtain ⟨i, hi⟩ := List.getElem?_of_mem hu
            exact HNO.out i u (List.getElem?_eq_some_iff.1 hi).1 hi
          clear hlm q0 q1 q2
          refine (Can_any (.mk 2 n []) L _ _ w2 (TR.sec HN.out) (HT.out.bel HSW.out.hb) (HTab.out.bel HSW.out.hb)).mono ?_
          rintro e w3 ⟨rfl, hb⟩
          have HSW := Lib.hid (HSW.out.bel hb)
          have HTB := Lib.hid (HTB.out.bel hb)
          clear hb
          have q0 := (blk_cell HSW.out.hx 0).trans rfl
          have q1 := (blk_cell HSW.out.hx 1).trans rfl
          have q2 := (blk_cell HSW.out.hx 2).trans rfl
          cases hk : canS L (.mk 2 n []) with
          | true =>
            have hx := Can_any x (L ++ [(.mk 4 0 [.mk 2 n [], x])]) _ _ w3 (HXT.out.bel HSW.out.hb) HTB.out (HTab.out.bel HSW.out.hb)
            rw [HOP.out hk] at hx
            clear hk
            go_wp2_with (first
              | (go_at_call 17; refine hx.mono ?_; clear hx; rintro e w1 ⟨rfl, hb⟩; have HSW := Lib.hid (HSW.out.bel hb); clear hb)
              | (go_at_call 12; with_reducible refine (C12.out _ HSW.out.hb).mono ?_; rintro e w1 ⟨rfl, hb⟩; have HSW := Lib.hid (HSW.out.bel hb); clear hb))
            go_ret
            exact ⟨rfl, HSW.out.hb⟩
          | false =>
            have hx1 : ∀ y : Later w3.heap.size w3, Calls Tryd.prog 17 #[.agg #[.int .i64 2, .int .i64 m, .slice none 0 0], .slice A8 (L.length + 1) c8] y.w fun e w' => e = .returned (.bool (canS (L ++ [(.mk 4 0 [.mk 2 n [], x])]) (.mk 2 m []))) ∧ Below y.w.heap.size y.w w' := fun y => Can_any _ _ _ _ y.w (TR.sec HM.out) (HTB.out.bel y.2) ((HTab.out.bel HSW.out.hb).bel y.2)
            have hx2 : ∀ y : Later w3.heap.size w3, Calls Tryd.prog 17 #[.agg #[.int .i64 2, .int .i64 m, .slice none 0 0], .slice A L.length c] y.w fun e w' => e = .returned (.bool (canS L (.mk 2 m []))) ∧ Below y.w.heap.size y.w w' := fun y => Can_any _ _ _ _ y.w (TR.sec HM.out) ((HT.out.bel HSW.out.hb).bel y.2) ((HTab.out.bel HSW.out.hb).bel y.2)
            have hx3 : ∀ y : Later w3.heap.size w3, Calls Tryd.prog 12 #[] y.w fun e w' => e = .returned (.bool true) ∧ Below y.w.heap.size y.w w' := fun y => C12.out _ (bthen HSW.out.hb y.2)
            rw [HSE.out hk] at hx1
            clear hk
            obtain ⟨s, hs⟩ : ∃ s, s = canS L (.mk 2 m []) := ⟨_, rfl⟩
            rw [← hs] at hx1 hx2
            clear hs
            have HX1 := Lib.hid hx1
            have HX2 := Lib.hid hx2
            have HX3 := Lib.hid hx3
            clear hx1 hx2 hx3 q0 q1 q2
            have hlt10 := (Array.getElem?_eq_some_iff.1 HSW.out.h10).1
            have l0 : ∀ y : Later w3.heap.size w3, y.w.cell? ⟨B + 1, 0, none⟩ = some (.int .i64 2) := fun y => y.cell ((blk_cell HSW.out.h10 0).trans rfl) hlt10
            have l1 : ∀ y : Later w3.heap.size w3, y.w.cell? ⟨B + 1, 1, none⟩ = some (.int .i64 m) := fun y => y.cell ((blk_cell HSW.out.h10 1).trans rfl) hlt10
            have l2 : ∀ y : Later w3.heap.size w3, y.w.cell? ⟨B + 1, 2, none⟩ = some (.slice none 0 0) := fun y => y.cell ((blk_cell HSW.out.h10 2).trans rfl) hlt10
            clear hlt10
            cases s
            all_goals go_wp2_with fail
            all_goals refine wp_region_later w3.heap.size (by kernel_rfl) ?_
            all_goals repeat (first | go_big_quiet_step ((first | (go_at_call 12; with_reducible exact later_call (HX3.out _) (Nat.le_refl _)) | (go_at_call 17; first | (with_reducible exact later_call (HX1.out _) (Nat.le_refl _)) | (with_reducible exact later_call (HX2.out _) (Nat.le_refl _))))) | quiet_step ((first | (go_at_call 12; with_reducible exact later_call (HX3.out _) (Nat.le_refl _)) | (go_at_call 17; first | (with_reducible exact later_call (HX1.out _) (Nat.le_refl _)) | (with_reducible exact later_call (HX2.out _) (Nat.le_refl _))))))
            all_goals refine wpQuiet_nil (later_all ?_)
            all_goals intro wx hx
            all_goals have HSW := Lib.hid (HSW.out.bel hx)
            all_goals clear hx l0 l1 l2
            all_goals go_wp2_with fail
            all_goals go_ret
            all_goals exact ⟨rfl, HSW.out.hb⟩
        · unfold maxLen; have := HMU.out.1; omega
        · have := HMU.out.1; omega
        · exact HS1.out
end Go.Proofs.YtfhpnkmhppfeiaaDoor
