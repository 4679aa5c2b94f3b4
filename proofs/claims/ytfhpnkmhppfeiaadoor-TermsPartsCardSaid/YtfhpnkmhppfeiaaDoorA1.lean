/- terms.forms, terms.fits. -/
import Derived.Test.YtfhpnkmhppfeiaaDoorBase
import Derived.Lib.Hide
set_option linter.unusedVariables false
set_option linter.unusedSimpArgs false
namespace Go.Proofs.YtfhpnkmhppfeiaaDoor
open Go.RowKit Go.Proofs
/-! ### forms: function 41 -/
theorem push_set {α : Type} (a : Array α) (x y : α) : (a.push x).setIfInBounds a.size y = a.push y := by
  apply Array.toList_inj.1
  simp
theorem run_insert_last {w : World} {es : Array MapEntry} {c : Nat} {k : Int} {v : Value} (hf : Instr.findNow (.int .i64) (.int .i64 k) es.toList 0 = some none) :
    (Instr.mapUpdate 59 (.map (some w.heap.size)) (.int .i64 k) v).run Tryd.prog (w.alloc (.map es c)) = .ok () (w.alloc (.map (es.push ⟨.int .i64 k, v, c⟩) (c + 1))) := by
  have hh : (w.alloc (.map es c)).heap[w.heap.size]? = some (.map es c) := heap_alloc_new w _
  have hg := run_getMap (P := Tryd.prog) hh
  have hs := fun o => run_setMap (P := Tryd.prog) hh o
  have he : (⟨(w.alloc (.map es c)).heap.setIfInBounds w.heap.size (.map (es.push ⟨.int .i64 k, v, c⟩) (c + 1)), (w.alloc (.map es c)).tape, (w.alloc (.map es c)).drawn, (w.alloc (.map es c)).os, (w.alloc (.map es c)).output⟩ : World) = w.alloc (.map (es.push ⟨.int .i64 k, v, c⟩) (c + 1)) := by
    show (⟨(w.heap.push _).setIfInBounds w.heap.size _, _, _, _, _⟩ : World) = ⟨w.heap.push _, _, _, _, _⟩
    rw [push_set]; rfl
  simp [Instr.mapUpdate, go_sem, hg, check23, Instr.findKey, hf, hs]
  exact he
set_option maxRecDepth 100000 in
set_option maxHeartbeats 1000000 in
theorem forms_any (w : World) : Calls Tryd.prog 41 #[] w fun e w' => e = .returned (.map (some w.heap.size)) ∧ FormsAt w' w.heap.size ∧ Below w.heap.size w w' := by
  have hmm := @run_makeMap Tryd.prog
  have h1 : (Instr.mapUpdate 59 (.map (some w.heap.size)) (.int .i64 1) (.agg #[.string ⟨#[100]⟩, .int .i64 0])).run Tryd.prog (w.alloc (.map #[] 0)) = .ok () (w.alloc (.map #[⟨.int .i64 1, .agg #[.string ⟨#[100]⟩, .int .i64 0], 0⟩] 1)) := run_insert_last rfl
  have h2 : (Instr.mapUpdate 59 (.map (some w.heap.size)) (.int .i64 2) (.agg #[.string ⟨#[115]⟩, .int .i64 0])).run Tryd.prog (w.alloc (.map #[⟨.int .i64 1, .agg #[.string ⟨#[100]⟩, .int .i64 0], 0⟩] 1)) = .ok () (w.alloc (.map #[⟨.int .i64 1, .agg #[.string ⟨#[100]⟩, .int .i64 0], 0⟩, ⟨.int .i64 2, .agg #[.string ⟨#[115]⟩, .int .i64 0], 1⟩] 2)) := run_insert_last rfl
  have h3 : (Instr.mapUpdate 59 (.map (some w.heap.size)) (.int .i64 3) (.agg #[.string ⟨#[112, 117, 98, 108, 105, 99]⟩, .int .i64 1])).run Tryd.prog (w.alloc (.map #[⟨.int .i64 1, .agg #[.string ⟨#[100]⟩, .int .i64 0], 0⟩, ⟨.int .i64 2, .agg #[.string ⟨#[115]⟩, .int .i64 0], 1⟩] 2)) = .ok () (w.alloc (.map #[⟨.int .i64 1, .agg #[.string ⟨#[100]⟩, .int .i64 0], 0⟩, ⟨.int .i64 2, .agg #[.string ⟨#[115]⟩, .int .i64 0], 1⟩, ⟨.int .i64 3, .agg #[.string ⟨#[112, 117, 98, 108, 105, 99]⟩, .int .i64 1], 2⟩] 3)) := run_insert_last rfl
  have h4 : (Instr.mapUpdate 59 (.map (some w.heap.size)) (.int .i64 4) (.agg #[.string ⟨#[115, 101, 97, 108]⟩, .int .i64 2])).run Tryd.prog (w.alloc (.map #[⟨.int .i64 1, .agg #[.string ⟨#[100]⟩, .int .i64 0], 0⟩, ⟨.int .i64 2, .agg #[.string ⟨#[115]⟩, .int .i64 0], 1⟩, ⟨.int .i64 3, .agg #[.string ⟨#[112, 117, 98, 108, 105, 99]⟩, .int .i64 1], 2⟩] 3)) = .ok () (w.alloc (.map #[⟨.int .i64 1, .agg #[.string ⟨#[100]⟩, .int .i64 0], 0⟩, ⟨.int .i64 2, .agg #[.string ⟨#[115]⟩, .int .i64 0], 1⟩, ⟨.int .i64 3, .agg #[.string ⟨#[112, 117, 98, 108, 105, 99]⟩, .int .i64 1], 2⟩, ⟨.int .i64 4, .agg #[.string ⟨#[115, 101, 97, 108]⟩, .int .i64 2], 3⟩] 4)) := run_insert_last rfl
  have h5 : (Instr.mapUpdate 59 (.map (some w.heap.size)) (.int .i64 5) (.agg #[.string ⟨#[115, 105, 103, 110]⟩, .int .i64 2])).run Tryd.prog (w.alloc (.map #[⟨.int .i64 1, .agg #[.string ⟨#[100]⟩, .int .i64 0], 0⟩, ⟨.int .i64 2, .agg #[.string ⟨#[115]⟩, .int .i64 0], 1⟩, ⟨.int .i64 3, .agg #[.string ⟨#[112, 117, 98, 108, 105, 99]⟩, .int .i64 1], 2⟩, ⟨.int .i64 4, .agg #[.string ⟨#[115, 101, 97, 108]⟩, .int .i64 2], 3⟩] 4)) = .ok () (w.alloc (.map #[⟨.int .i64 1, .agg #[.string ⟨#[100]⟩, .int .i64 0], 0⟩, ⟨.int .i64 2, .agg #[.string ⟨#[115]⟩, .int .i64 0], 1⟩, ⟨.int .i64 3, .agg #[.string ⟨#[112, 117, 98, 108, 105, 99]⟩, .int .i64 1], 2⟩, ⟨.int .i64 4, .agg #[.string ⟨#[115, 101, 97, 108]⟩, .int .i64 2], 3⟩, ⟨.int .i64 5, .agg #[.string ⟨#[115, 105, 103, 110]⟩, .int .i64 2], 4⟩] 5)) := run_insert_last rfl
  have h6 : (Instr.mapUpdate 59 (.map (some w.heap.size)) (.int .i64 6) (.agg #[.string ⟨#[109, 97, 99]⟩, .int .i64 2])).run Tryd.prog (w.alloc (.map #[⟨.int .i64 1, .agg #[.string ⟨#[100]⟩, .int .i64 0], 0⟩, ⟨.int .i64 2, .agg #[.string ⟨#[115]⟩, .int .i64 0], 1⟩, ⟨.int .i64 3, .agg #[.string ⟨#[112, 117, 98, 108, 105, 99]⟩, .int .i64 1], 2⟩, ⟨.int .i64 4, .agg #[.string ⟨#[115, 101, 97, 108]⟩, .int .i64 2], 3⟩, ⟨.int .i64 5, .agg #[.string ⟨#[115, 105, 103, 110]⟩, .int .i64 2], 4⟩] 5)) = .ok () (w.alloc (.map #[⟨.int .i64 1, .agg #[.string ⟨#[100]⟩, .int .i64 0], 0⟩, ⟨.int .i64 2, .agg #[.string ⟨#[115]⟩, .int .i64 0], 1⟩, ⟨.int .i64 3, .agg #[.string ⟨#[112, 117, 98, 108, 105, 99]⟩, .int .i64 1], 2⟩, ⟨.int .i64 4, .agg #[.string ⟨#[115, 101, 97, 108]⟩, .int .i64 2], 3⟩, ⟨.int .i64 5, .agg #[.string ⟨#[115, 105, 103, 110]⟩, .int .i64 2], 4⟩, ⟨.int .i64 6, .agg #[.string ⟨#[109, 97, 99]⟩, .int .i64 2], 5⟩] 6)) := run_insert_last rfl
  have h7 : (Instr.mapUpdate 59 (.map (some w.heap.size)) (.int .i64 7) (.agg #[.string ⟨#[112, 97, 105, 114]⟩, .int .i64 2])).run Tryd.prog (w.alloc (.map #[⟨.int .i64 1, .agg #[.string ⟨#[100]⟩, .int .i64 0], 0⟩, ⟨.int .i64 2, .agg #[.string ⟨#[115]⟩, .int .i64 0], 1⟩, ⟨.int .i64 3, .agg #[.string ⟨#[112, 117, 98, 108, 105, 99]⟩, .int .i64 1], 2⟩, ⟨.int .i64 4, .agg #[.string ⟨#[115, 101, 97, 108]⟩, .int .i64 2], 3⟩, ⟨.int .i64 5, .agg #[.string ⟨#[115, 105, 103, 110]⟩, .int .i64 2], 4⟩, ⟨.int .i64 6, .agg #[.string ⟨#[109, 97, 99]⟩, .int .i64 2], 5⟩] 6)) = .ok () (w.alloc (.map #[⟨.int .i64 1, .agg #[.string ⟨#[100]⟩, .int .i64 0], 0⟩, ⟨.int .i64 2, .agg #[.string ⟨#[115]⟩, .int .i64 0], 1⟩, ⟨.int .i64 3, .agg #[.string ⟨#[112, 117, 98, 108, 105, 99]⟩, .int .i64 1], 2⟩, ⟨.int .i64 4, .agg #[.string ⟨#[115, 101, 97, 108]⟩, .int .i64 2], 3⟩, ⟨.int .i64 5, .agg #[.string ⟨#[115, 105, 103, 110]⟩, .int .i64 2], 4⟩, ⟨.int .i64 6, .agg #[.string ⟨#[109, 97, 99]⟩, .int .i64 2], 5⟩, ⟨.int .i64 7, .agg #[.string ⟨#[112, 97, 105, 114]⟩, .int .i64 2], 6⟩] 7)) := run_insert_last rfl
  have h8 : (Instr.mapUpdate 59 (.map (some w.heap.size)) (.int .i64 8) (.agg #[.string ⟨#[115, 104, 97, 114, 101, 100]⟩, .int .i64 2])).run Tryd.prog (w.alloc (.map #[⟨.int .i64 1, .agg #[.string ⟨#[100]⟩, .int .i64 0], 0⟩, ⟨.int .i64 2, .agg #[.string ⟨#[115]⟩, .int .i64 0], 1⟩, ⟨.int .i64 3, .agg #[.string ⟨#[112, 117, 98, 108, 105, 99]⟩, .int .i64 1], 2⟩, ⟨.int .i64 4, .agg #[.string ⟨#[115, 101, 97, 108]⟩, .int .i64 2], 3⟩, ⟨.int .i64 5, .agg #[.string ⟨#[115, 105, 103, 110]⟩, .int .i64 2], 4⟩, ⟨.int .i64 6, .agg #[.string ⟨#[109, 97, 99]⟩, .int .i64 2], 5⟩, ⟨.int .i64 7, .agg #[.string ⟨#[112, 97, 105, 114]⟩, .int .i64 2], 6⟩] 7)) = .ok () (w.alloc (.map #[⟨.int .i64 1, .agg #[.string ⟨#[100]⟩, .int .i64 0], 0⟩, ⟨.int .i64 2, .agg #[.string ⟨#[115]⟩, .int .i64 0], 1⟩, ⟨.int .i64 3, .agg #[.string ⟨#[112, 117, 98, 108, 105, 99]⟩, .int .i64 1], 2⟩, ⟨.int .i64 4, .agg #[.string ⟨#[115, 101, 97, 108]⟩, .int .i64 2], 3⟩, ⟨.int .i64 5, .agg #[.string ⟨#[115, 105, 103, 110]⟩, .int .i64 2], 4⟩, ⟨.int .i64 6, .agg #[.string ⟨#[109, 97, 99]⟩, .int .i64 2], 5⟩, ⟨.int .i64 7, .agg #[.string ⟨#[112, 97, 105, 114]⟩, .int .i64 2], 6⟩, ⟨.int .i64 8, .agg #[.string ⟨#[115, 104, 97, 114, 101, 100]⟩, .int .i64 2], 7⟩] 8)) := run_insert_last rfl
  have h9 : (Instr.mapUpdate 59 (.map (some w.heap.size)) (.int .i64 9) (.agg #[.string ⟨#[104, 97, 115, 104]⟩, .int .i64 1])).run Tryd.prog (w.alloc (.map #[⟨.int .i64 1, .agg #[.string ⟨#[100]⟩, .int .i64 0], 0⟩, ⟨.int .i64 2, .agg #[.string ⟨#[115]⟩, .int .i64 0], 1⟩, ⟨.int .i64 3, .agg #[.string ⟨#[112, 117, 98, 108, 105, 99]⟩, .int .i64 1], 2⟩, ⟨.int .i64 4, .agg #[.string ⟨#[115, 101, 97, 108]⟩, .int .i64 2], 3⟩, ⟨.int .i64 5, .agg #[.string ⟨#[115, 105, 103, 110]⟩, .int .i64 2], 4⟩, ⟨.int .i64 6, .agg #[.string ⟨#[109, 97, 99]⟩, .int .i64 2], 5⟩, ⟨.int .i64 7, .agg #[.string ⟨#[112, 97, 105, 114]⟩, .int .i64 2], 6⟩, ⟨.int .i64 8, .agg #[.string ⟨#[115, 104, 97, 114, 101, 100]⟩, .int .i64 2], 7⟩] 8)) = .ok () (w.alloc (.map #[⟨.int .i64 1, .agg #[.string ⟨#[100]⟩, .int .i64 0], 0⟩, ⟨.int .i64 2, .agg #[.string ⟨#[115]⟩, .int .i64 0], 1⟩, ⟨.int .i64 3, .agg #[.string ⟨#[112, 117, 98, 108, 105, 99]⟩, .int .i64 1], 2⟩, ⟨.int .i64 4, .agg #[.string ⟨#[115, 101, 97, 108]⟩, .int .i64 2], 3⟩, ⟨.int .i64 5, .agg #[.string ⟨#[115, 105, 103, 110]⟩, .int .i64 2], 4⟩, ⟨.int .i64 6, .agg #[.string ⟨#[109, 97, 99]⟩, .int .i64 2], 5⟩, ⟨.int .i64 7, .agg #[.string ⟨#[112, 97, 105, 114]⟩, .int .i64 2], 6⟩, ⟨.int .i64 8, .agg #[.string ⟨#[115, 104, 97, 114, 101, 100]⟩, .int .i64 2], 7⟩, ⟨.int .i64 9, .agg #[.string ⟨#[104, 97, 115, 104]⟩, .int .i64 1], 8⟩] 9)) := run_insert_last rfl
  go_enter Tryd.func41, Tryd.ntmps41
  go_wp2
  go_ret
  exact ⟨rfl, heap_alloc_new w _, bself w _⟩

/-! ### fits: function 49 -/
theorem fitsL_drop {args : List Tm} {j : Nat} {a : Tm} (h : args[j]? = some a) (l : Int) : fitsL (args.drop j) l = if (fits a l).1 = true then fitsL (args.drop (j + 1)) (fits a l).2 else (false, (fits a l).2) := by
  obtain ⟨hlt, rfl⟩ := List.getElem?_eq_some_iff.1 h
  rw [List.drop_eq_getElem_cons hlt]
  rfl
theorem fits_nn {t : Tm} {l : Int} (h0 : 0 ≤ l) (h : (fits t l).1 = true) : 0 ≤ (fits t l).2 := by
  obtain ⟨h1, h2⟩ := fits_spec t l h0
  have e := h2 h
  have := (h1.1 h).2
  omega
theorem fits_no {k n left : Int} {len : Nat} (h : ¬ (headOK k n len = true ∧ 1 ≤ left)) (a : isKind k = true) (b : 1 ≤ left) (c : (len : Int) = (arity k : Int)) (d : 0 ≤ n) (e : n = 0 ∨ ¬ 0 < arity k) : False :=
  h ⟨headOK_iff.2 ⟨by simpa [isKind] using a, by omega, d, by omega⟩, b⟩
theorem fits_or {n left : Int} {m : Nat} (h1 : ¬ n = 0) (h : (0 ≤ left - 1 ∧ 0 ≤ n) ∧ ((n != 0) = false ∨ ¬ 0 < m)) : n = 0 ∨ ¬ 0 < m := by
  rcases h.2 with h | h
  · exact .inl (by simpa using h)
  · exact .inr h
set_option maxRecDepth 100000 in
set_option maxHeartbeats 1000000 in
theorem fits_any (N : Nat) : ∀ (t : Tm) (v : Value) (m : Nat) (left : Int) (w : World), size t ≤ N → TR w Any t v → FormsAt w m → 0 ≤ left → left ≤ 2000 →
    Calls Tryd.prog 49 #[v, .map (some m), .int .i64 left] w fun e w' => e = .returned (.tuple #[.bool (fits t left).1, .int .i64 (fits t left).2]) ∧ Below w.heap.size w w' := by
  induction N with
  | zero => intro t v m left w h; have := size_pos t; omega
  | succ N ih =>
    rintro ⟨k, n, args⟩ v m left w hN hT hF hl0 hl1
    obtain ⟨s, rfl, hk, hn, hS⟩ := hT.inv
    obtain ⟨A, c, rfl, hc1, hc2⟩ := hS.form
    have hm := hF.lt
    by_cases hK : headOK k n args.length = true ∧ 1 ≤ left
    · obtain ⟨hH, hl⟩ := hK
      have HE : Hid (fits (.mk k n args) left = fitsL args (left - 1)) := by
        unfold Hid; rw [fits, if_pos (by rw [hH, decide_eq_true (by omega)]; rfl)]
      obtain ⟨hk1, hlen, hn0, hz⟩ := headOK_iff.1 hH
      have hlen' := hlen.symm
      have HK := Lib.hid (show isKind k = true by simpa [isKind] using hk1)
      have HLEN := Lib.hid hlen
      have HS := Lib.hid hS
      have HN := Lib.hid hN
      clear hlen hS hT hH hN
      have hz' : n = 0 ∨ (¬ n = 0 ∧ args = []) := by
        by_cases h0 : n = 0
        · exact .inl h0
        · refine .inr ⟨h0, ?_⟩
          rcases hz with h | h
          · exact absurd h h0
          · exact List.length_eq_zero_iff.1 (by omega)
      clear hz hlen'
      rcases hz' with hz' | ⟨hz', hz2⟩
      · subst hz'
        go_enter Tryd.func49, Tryd.ntmps49
        go_wp2_with (first | (at_lookup; refine wpList_forms_ok rfl _ _ rfl rfl rfl (hF.keep ((Below.refl _ _).alloc (Nat.le_refl _) _) hm) ?_; rw [HK.out, ← HLEN.out]))
        go_loopw [2, 55] (fun l i wr => ∃ (j : Nat) (x : Int), i = .int .i64 j ∧ l = .int .i64 x ∧ j ≤ args.length ∧ 0 ≤ x ∧ x ≤ 2000 ∧ Hid (fitsL (args.drop j) x = fitsL args (left - 1)) ∧ Below w.heap.size w wr) (fun _ i _ => args.length - (intOf i).toNat)
        case atStart => exact ⟨0, left - 1, rfl, rfl, Nat.zero_le _, by omega, by omega, rfl, ((Below.refl _ _).alloc (Nat.le_refl _) _).alloc (by simp) _⟩
        case round =>
          obtain ⟨j, x, rfl, rfl, hj, hx0, hx1, HX, hb⟩ := hrel
          by_cases hlt : j < args.length
          · obtain ⟨a, ha⟩ : ∃ a, args[j]? = some a := ⟨_, List.getElem?_eq_getElem hlt⟩
            obtain ⟨b, o, A2, cc, rfl, _, hbs, c0, c1, c2, hTa⟩ := HS.out.at_ ha
            have d0 := (hb.cell (p := ⟨b, o + j * 3, none⟩) hbs).trans c0
            have d1 := (hb.cell (p := ⟨b, o + j * 3 + 1, none⟩) hbs).trans c1
            have d2 := (hb.cell (p := ⟨b, o + j * 3 + 2, none⟩) hbs).trans c2
            have HA := Lib.hid ha
            clear ha c0 c1 c2
            have hic := ih a _ m x (wr.alloc (.cells #[.int .i64 a.k, .int .i64 a.n, .slice A2 a.args.length cc] 25)) (by have := size_at (k := k) (n := 0) HA.out; have := HN.out; omega) ((hTa.bel hb).bel ((Below.refl _ _).alloc (Nat.le_refl _) _)) ((hF.keep hb hm).bel ((Below.refl _ _).alloc (Nat.le_refl _) _)) hx0 hx1
            go_wp2_with (first | (go_at_call 49; refine hic.mono ?_; rintro e w1 ⟨rfl, hb1⟩))
            · have hf : (fits a x).1 = false := by simpa using (by assumption : (!(fits a x).fst) = true)
              go_ret2
              exact ⟨ret_bi (by rw [HE.out, ← HX.out, fitsL_drop HA.out, if_neg (by rw [hf]; simp)]), bthen (balloc hb _) hb1⟩
            · have hf : (fits a x).1 = true := by simpa using (by assumption : (!(fits a x).fst) = false)
              go_roundw
              case rel =>
                refine ⟨j + 1, (fits a x).2, by go_num, rfl, by omega, fits_nn hx0 hf, by have := fits_le a x; omega, ?_, bthen (balloc hb _) hb1⟩
                unfold Hid
                rw [← HX.out, fitsL_drop HA.out, if_pos hf]
              case measure => simp [intOf]; omega
          · obtain rfl : j = args.length := by omega
            go_wp2
            go_ret2
            exact ⟨ret_bi (by rw [HE.out, ← HX.out, List.drop_length]; rfl), hb⟩
      · subst hz2
        go_enter Tryd.func49, Tryd.ntmps49
        go_wp2_with (first | (at_lookup; refine wpList_forms_ok rfl _ _ rfl rfl rfl (hF.keep ((Below.refl _ _).alloc (Nat.le_refl _) _) hm) ?_; rw [HK.out, ← HLEN.out]))
        refine wp_loop_rounds 1 ?_; rw [rounds_succ]
        go_wp2
        go_ret2
        exact ⟨ret_bi (by rw [HE.out]; rfl), ((Below.refl _ _).alloc (Nat.le_refl _) _).alloc (by simp) _⟩
    · have HE : Hid (fits (.mk k n args) left = (false, left - 1)) := by
        unfold Hid; rw [fits, if_neg (by rw [Bool.and_eq_true, decide_eq_true_eq]; exact fun h => hK ⟨h.1, by omega⟩)]
      have HH := Lib.hid hK
      clear hK hS hT
      go_enter Tryd.func49, Tryd.ntmps49
      go_wp2_with (first | (at_lookup; refine wpList_forms_ok rfl _ _ rfl rfl rfl (hF.keep ((Below.refl _ _).alloc (Nat.le_refl _) _) hm) ?_))
      all_goals first
        | (exfalso; exact fits_no HH.out (by assumption) (by assumption) (by assumption) (by assumption) (.inl (by assumption)))
        | (exfalso; exact fits_no HH.out (by assumption) (by assumption) (by assumption) (by assumption) (fits_or (by assumption) (by assumption)))
        | (go_ret2; exact ⟨ret_bi (by rw [HE.out]), ((Below.refl _ _).alloc (Nat.le_refl _) _).alloc (by simp) _⟩)
end Go.Proofs.YtfhpnkmhppfeiaaDoor
