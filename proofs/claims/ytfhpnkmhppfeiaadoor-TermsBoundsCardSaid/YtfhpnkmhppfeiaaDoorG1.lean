/- terms.forms, terms.fits. terms.text: the text of a term. slices.Reverse of two terms. -/
import Derived.Test.YtfhpnkmhppfeiaaDoorBase
import Derived.Lib.Hide
import Derived.Test.YtfhpnkmhppfeiaaDoorB2
import Derived.Test.YtfhpnkmhppfeiaaDoorB3
/- terms.forms, terms.fits. -/
set_option linter.unusedVariables false
set_option linter.unusedSimpArgs false
namespace Go.Proofs.YtfhpnkmhppfeiaaDoor
open Go.RowKit Go.Proofs
/-! ### forms: function 41 -/
theorem push_set {α : Type} (a : Array α) (x y : α) : (a.push x).setIfInBounds a.size y = a.push y := by
  apply Array.toList_inj.1
  simp
theorem run_insert_last {w : World} {es : Array MapEntry} {c : Nat} {k : Int} {v : Value} (hf : Instr.findNow (.int .i64) (.int .i64 k) es.toList 0 = some none) :
    (Instr.mapUpdate 59 (.map (some w.heap.size)) (.int .i64 k) v).run Tryd.prog (w.alloc (.map es c)) = .ok () (w.alloc (.map (es.push ⟨.int .i64 k, v, c⟩) (c + 1))) := by
  have hh : (w.alloc (.map es c)).heap[w.heap.size]? = some (.map es c) := heap_alloc_new w _
  have hg := run_getMap (P := Tryd.prog) hh
  have hs := fun o => run_setMap (P := Tryd.prog) hh o
  have he : (⟨(w.alloc (.map es c)).heap.setIfInBounds w.heap.size (.map (es.push ⟨.int .i64 k, v, c⟩) (c + 1)), (w.alloc (.map es c)).tape, (w.alloc (.map es c)).drawn, (w.alloc (.map es c)).os, (w.alloc (.map es c)).output⟩ : World) = w.alloc (.map (es.push ⟨.int .i64 k, v, c⟩) (c + 1)) := by
    show (⟨(w.heap.push _).setIfInBounds w.heap.size _, _, _, _, _⟩ : World) = ⟨w.heap.push _, _, _, _, _⟩
    rw [push_set]; rfl
  simp [Instr.mapUpdate, go_sem, hg, check23, Instr.findKey, hf, hs]
  exact he
set_option maxRecDepth 100000 in
set_option maxHeartbeats 1000000 in
theorem forms_any (w : World) : Calls Tryd.prog 41 #[] w fun e w' => e = .returned (.map (some w.heap.size)) ∧ FormsAt w' w.heap.size ∧ Below w.heap.size w w' := by
  have hmm := @run_makeMap Tryd.prog
  have h1 : (Instr.mapUpdate 59 (.map (some w.heap.size)) (.int .i64 1) (.agg #[.string ⟨#[100]⟩, .int .i64 0])).run Tryd.prog (w.alloc (.map #[] 0)) = .ok () (w.alloc (.map #[⟨.int .i64 1, .agg #[.string ⟨#[100]⟩, .int .i64 0], 0⟩] 1)) := run_insert_last rfl
  have h2 : (Instr.mapUpdate 59 (.map (some w.heap.size)) (.int .i64 2) (.agg #[.string ⟨#[115]⟩, .int .i64 0])).run Tryd.prog (w.alloc (.map #[⟨.int .i64 1, .agg #[.string ⟨#[100]⟩, .int .i64 0], 0⟩] 1)) = .ok () (w.alloc (.map #[⟨.int .i64 1, .agg #[.string ⟨#[100]⟩, .int .i64 0], 0⟩, ⟨.int .i64 2, .agg #[.string ⟨#[115]⟩, .int .i64 0], 1⟩] 2)) := run_insert_last rfl
  have h3 : (Instr.mapUpdate 59 (.map (some w.heap.size)) (.int .i64 3) (.agg #[.string ⟨#[112, 117, 98, 108, 105, 99]⟩, .int .i64 1])).run Tryd.prog (w.alloc (.map #[⟨.int .i64 1, .agg #[.string ⟨#[100]⟩, .int .i64 0], 0⟩, ⟨.int .i64 2, .agg #[.string ⟨#[115]⟩, .int .i64 0], 1⟩] 2)) = .ok () (w.alloc (.map #[⟨.int .i64 1, .agg #[.string ⟨#[100]⟩, .int .i64 0], 0⟩, ⟨.int .i64 2, .agg #[.string ⟨#[115]⟩, .int .i64 0], 1⟩, ⟨.int .i64 3, .agg #[.string ⟨#[112, 117, 98, 108, 105, 99]⟩, .int .i64 1], 2⟩] 3)) := run_insert_last rfl
  have h4 : (Instr.mapUpdate 59 (.map (some w.heap.size)) (.int .i64 4) (.agg #[.string ⟨#[115, 101, 97, 108]⟩, .int .i64 2])).run Tryd.prog (w.alloc (.map #[⟨.int .i64 1, .agg #[.string ⟨#[100]⟩, .int .i64 0], 0⟩, ⟨.int .i64 2, .agg #[.string ⟨#[115]⟩, .int .i64 0], 1⟩, ⟨.int .i64 3, .agg #[.string ⟨#[112, 117, 98, 108, 105, 99]⟩, .int .i64 1], 2⟩] 3)) = .ok () (w.alloc (.map #[⟨.int .i64 1, .agg #[.string ⟨#[100]⟩, .int .i64 0], 0⟩, ⟨.int .i64 2, .agg #[.string ⟨#[115]⟩, .int .i64 0], 1⟩, ⟨.int .i64 3, .agg #[.string ⟨#[112, 117, 98, 108, 105, 99]⟩, .int .i64 1], 2⟩, ⟨.int .i64 4, .agg #[.string ⟨#[115, 101, 97, 108]⟩, .int .i64 2], 3⟩] 4)) := run_insert_last rfl
  have h5 : (Instr.mapUpdate 59 (.map (some w.heap.size)) (.int .i64 5) (.agg #[.string ⟨#[115, 105, 103, 110]⟩, .int .i64 2])).run Tryd.prog (w.alloc (.map #[⟨.int .i64 1, .agg #[.string ⟨#[100]⟩, .int .i64 0], 0⟩, ⟨.int .i64 2, .agg #[.string ⟨#[115]⟩, .int .i64 0], 1⟩, ⟨.int .i64 3, .agg #[.string ⟨#[112, 117, 98, 108, 105, 99]⟩, .int .i64 1], 2⟩, ⟨.int .i64 4, .agg #[.string ⟨#[115, 101, 97, 108]⟩, .int .i64 2], 3⟩] 4)) = .ok () (w.alloc (.map #[⟨.int .i64 1, .agg #[.string ⟨#[100]⟩, .int .i64 0], 0⟩, ⟨.int .i64 2, .agg #[.string ⟨#[115]⟩, .int .i64 0], 1⟩, ⟨.int .i64 3, .agg #[.string ⟨#[112, 117, 98, 108, 105, 99]⟩, .int .i64 1], 2⟩, ⟨.int .i64 4, .agg #[.string ⟨#[115, 101, 97, 108]⟩, .int .i64 2], 3⟩, ⟨.int .i64 5, .agg #[.string ⟨#[115, 105, 103, 110]⟩, .int .i64 2], 4⟩] 5)) := run_insert_last rfl
  have h6 : (Instr.mapUpdate 59 (.map (some w.heap.size)) (.int .i64 6) (.agg #[.string ⟨#[109, 97, 99]⟩, .int .i64 2])).run Tryd.prog (w.alloc (.map #[⟨.int .i64 1, .agg #[.string ⟨#[100]⟩, .int .i64 0], 0⟩, ⟨.int .i64 2, .agg #[.string ⟨#[115]⟩, .int .i64 0], 1⟩, ⟨.int .i64 3, .agg #[.string ⟨#[112, 117, 98, 108, 105, 99]⟩, .int .i64 1], 2⟩, ⟨.int .i64 4, .agg #[.string ⟨#[115, 101, 97, 108]⟩, .int .i64 2], 3⟩, ⟨.int .i64 5, .agg #[.string ⟨#[115, 105, 103, 110]⟩, .int .i64 2], 4⟩] 5)) = .ok () (w.alloc (.map #[⟨.int .i64 1, .agg #[.string ⟨#[100]⟩, .int .i64 0], 0⟩, ⟨.int .i64 2, .agg #[.string ⟨#[115]⟩, .int .i64 0], 1⟩, ⟨.int .i64 3, .agg #[.string ⟨#[112, 117, 98, 108, 105, 99]⟩, .int .i64 1], 2⟩, ⟨.int .i64 4, .agg #[.string ⟨#[115, 101, 97, 108]⟩, .int .i64 2], 3⟩, ⟨.int .i64 5, .agg #[.string ⟨#[115, 105, 103, 110]⟩, .int .i64 2], 4⟩, ⟨.int .i64 6, .agg #[.string ⟨#[109, 97, 99]⟩, .int .i64 2], 5⟩] 6)) := run_insert_last rfl
  have h7 : (Instr.mapUpdate 59 (.map (some w.heap.size)) (.int .i64 7) (.agg #[.string ⟨#[112, 97, 105, 114]⟩, .int .i64 2])).run Tryd.prog (w.alloc (.map #[⟨.int .i64 1, .agg #[.string ⟨#[100]⟩, .int .i64 0], 0⟩, ⟨.int .i64 2, .agg #[.string ⟨#[115]⟩, .int .i64 0], 1⟩, ⟨.int .i64 3, .agg #[.string ⟨#[112, 117, 98, 108, 105, 99]⟩, .int .i64 1], 2⟩, ⟨.int .i64 4, .agg #[.string ⟨#[115, 101, 97, 108]⟩, .int .i64 2], 3⟩, ⟨.int .i64 5, .agg #[.string ⟨#[115, 105, 103, 110]⟩, .int .i64 2], 4⟩, ⟨.int .i64 6, .agg #[.string ⟨#[109, 97, 99]⟩, .int .i64 2], 5⟩] 6)) = .ok () (w.alloc (.map #[⟨.int .i64 1, .agg #[.string ⟨#[100]⟩, .int .i64 0], 0⟩, ⟨.int .i64 2, .agg #[.string ⟨#[115]⟩, .int .i64 0], 1⟩, ⟨.int .i64 3, .agg #[.string ⟨#[112, 117, 98, 108, 105, 99]⟩, .int .i64 1], 2⟩, ⟨.int .i64 4, .agg #[.string ⟨#[115, 101, 97, 108]⟩, .int .i64 2], 3⟩, ⟨.int .i64 5, .agg #[.string ⟨#[115, 105, 103, 110]⟩, .int .i64 2], 4⟩, ⟨.int .i64 6, .agg #[.string ⟨#[109, 97, 99]⟩, .int .i64 2], 5⟩, ⟨.int .i64 7, .agg #[.string ⟨#[112, 97, 105, 114]⟩, .int .i64 2], 6⟩] 7)) := run_insert_last rfl
  have h8 : (Instr.mapUpdate 59 (.map (some w.heap.size)) (.int .i64 8) (.agg #[.string ⟨#[115, 104, 97, 114, 101, 100]⟩, .int .i64 2])).run Tryd.prog (w.alloc (.map #[⟨.int .i64 1, .agg #[.string ⟨#[100]⟩, .int .i64 0], 0⟩, ⟨.int .i64 2, .agg #[.string ⟨#[115]⟩, .int .i64 0], 1⟩, ⟨.int .i64 3, .agg #[.string ⟨#[112, 117, 98, 108, 105, 99]⟩, .int .i64 1], 2⟩, ⟨.int .i64 4, .agg #[.string ⟨#[115, 101, 97, 108]⟩, .int .i64 2], 3⟩, ⟨.int .i64 5, .agg #[.string ⟨#[115, 105, 103, 110]⟩, .int .i64 2], 4⟩, ⟨.int .i64 6, .agg #[.string ⟨#[109, 97, 99]⟩, .int .i64 2], 5⟩, ⟨.int .i64 7, .agg #[.string ⟨#[112, 97, 105, 114]⟩, .int .i64 2], 6⟩] 7)) = .ok () (w.alloc (.map #[⟨.int .i64 1, .agg #[.string ⟨#[100]⟩, .int .i64 0], 0⟩, ⟨.int .i64 2, .agg #[.string ⟨#[115]⟩, .int .i64 0], 1⟩, ⟨.int .i64 3, .agg #[.string ⟨#[112, 117, 98, 108, 105, 99]⟩, .int .i64 1], 2⟩, ⟨.int .i64 4, .agg #[.string ⟨#[115, 101, 97, 108]⟩, .int .i64 2], 3⟩, ⟨.int .i64 5, .agg #[.string ⟨#[115, 105, 103, 110]⟩, .int .i64 2], 4⟩, ⟨.int .i64 6, .agg #[.string ⟨#[109, 97, 99]⟩, .int .i64 2], 5⟩, ⟨.int .i64 7, .agg #[.string ⟨#[112, 97, 105, 114]⟩, .int .i64 2], 6⟩, ⟨.int .i64 8, .agg #[.string ⟨#[115, 104, 97, 114, 101, 100]⟩, .int .i64 2], 7⟩] 8)) := run_insert_last rfl
  have h9 : (Instr.mapUpdate 59 (.map (some w.heap.size)) (.int .i64 9) (.agg #[.string ⟨#[104, 97, 115, 104]⟩, .int .i64 1])).run Tryd.prog (w.alloc (.map #[⟨.int .i64 1, .agg #[.string ⟨#[100]⟩, .int .i64 0], 0⟩, ⟨.int .i64 2, .agg #[.string ⟨#[115]⟩, .int .i64 0], 1⟩, ⟨.int .i64 3, .agg #[.string ⟨#[112, 117, 98, 108, 105, 99]⟩, .int .i64 1], 2⟩, ⟨.int .i64 4, .agg #[.string ⟨#[115, 101, 97, 108]⟩, .int .i64 2], 3⟩, ⟨.int .i64 5, .agg #[.string ⟨#[115, 105, 103, 110]⟩, .int .i64 2], 4⟩, ⟨.int .i64 6, .agg #[.string ⟨#[109, 97, 99]⟩, .int .i64 2], 5⟩, ⟨.int .i64 7, .agg #[.string ⟨#[112, 97, 105, 114]⟩, .int .i64 2], 6⟩, ⟨.int .i64 8, .agg #[.string ⟨#[115, 104, 97, 114, 101, 100]⟩, .int .i64 2], 7⟩] 8)) = .ok () (w.alloc (.map #[⟨.int .i64 1, .agg #[.string ⟨#[100]⟩, .int .i64 0], 0⟩, ⟨.int .i64 2, .agg #[.string ⟨#[115]⟩, .int .i64 0], 1⟩, ⟨.int .i64 3, .agg #[.string ⟨#[112, 117, 98, 108, 105, 99]⟩, .int .i64 1], 2⟩, ⟨.int .i64 4, .agg #[.string ⟨#[115, 101, 97, 108]⟩, .int .i64 2], 3⟩, ⟨.int .i64 5, .agg #[.string ⟨#[115, 105, 103, 110]⟩, .int .i64 2], 4⟩, ⟨.int .i64 6, .agg #[.string ⟨#[109, 97, 99]⟩, .int .i64 2], 5⟩, ⟨.int .i64 7, .agg #[.string ⟨#[112, 97, 105, 114]⟩, .int .i64 2], 6⟩, ⟨.int .i64 8, .agg #[.string ⟨#[115, 104, 97, 114, 101, 100]⟩, .int .i64 2], 7⟩, ⟨.int .i64 9, .agg #[.string ⟨#[104, 97, 115, 104]⟩, .int .i64 1], 8⟩] 9)) := run_insert_last rfl
  go_enter Tryd.func41, Tryd.ntmps41
  go_wp2
  go_ret
  exact ⟨rfl, heap_alloc_new w _, bself w _⟩

/-! ### fits: function 49 -/
theorem fitsL_drop {args : List Tm} {j : Nat} {a : Tm} (h : args[j]? = some a) (l : Int) : fitsL (args.drop j) l = if (fits a l).1 = true then fitsL (args.drop (j + 1)) (fits a l).2 else (false, (fits a l).2) := by
  obtain ⟨hlt, rfl⟩ := List.getElem?_eq_some_iff.1 h
  rw [List.drop_eq_getElem_cons hlt]
  rfl
theorem fits_nn {t : Tm} {l : Int} (h0 : 0 ≤ l) (h : (fits t l).1 = true) : 0 ≤ (fits t l).2 := by
  obtain ⟨h1, h2⟩ := fits_spec t l h0
  have e := h2 h
  have := (h1.1 h).2
  omega
theorem fits_no {k n left : Int} {len : Nat} (h : ¬ (headOK k n len = true ∧ 1 ≤ left)) (a : isKind k = true) (b : 1 ≤ left) (c : (len : Int) = (arity k : Int)) (d : 0 ≤ n) (e : n = 0 ∨ ¬ 0 < arity k) : False :=
  h ⟨headOK_iff.2 ⟨by simpa [isKind] using a, by omega, d, by omega⟩, b⟩
theorem fits_or {n left : Int} {m : Nat} (h1 : ¬ n = 0) (h : (0 ≤ left - 1 ∧ 0 ≤ n) ∧ ((n != 0) = false ∨ ¬ 0 < m)) : n = 0 ∨ ¬ 0 < m := by
  rcases h.2 with h | h
  · exact .inl (by simpa using h)
  · exact .inr h
set_option maxRecDepth 100000 in
set_option maxHeartbeats 1000000 in
theorem fits_any (N : Nat) : ∀ (t : Tm) (v : Value) (m : Nat) (left : Int) (w : World), size t ≤ N → TR w Any t v → FormsAt w m → 0 ≤ left → left ≤ 2000 →
    Calls Tryd.prog 49 #[v, .map (some m), .int .i64 left] w fun e w' => e = .returned (.tuple #[.bool (fits t left).1, .int .i64 (fits t left).2]) ∧ Below w.heap.size w w' := by
  induction N with
  | zero => intro t v m left w h; have := size_pos t; omega
  | succ N ih =>
    rintro ⟨k, n, args⟩ v m left w hN hT hF hl0 hl1
    obtain ⟨s, rfl, hk, hn, hS⟩ := hT.inv
    obtain ⟨A, c, rfl, hc1, hc2⟩ := hS.form
    have hm := hF.lt
    by_cases hK : headOK k n args.length = true ∧ 1 ≤ left
    · obtain ⟨hH, hl⟩ := hK
      have HE : Hid (fits (.mk k n args) left = fitsL args (left - 1)) := by
        unfold Hid; rw [fits, if_pos (by rw [hH, decide_eq_true (by omega)]; rfl)]
      obtain ⟨hk1, hlen, hn0, hz⟩ := headOK_iff.1 hH
      have hlen' := hlen.symm
      have HK := Lib.hid (show isKind k = true by simpa [isKind] using hk1)
      have HLEN := Lib.hid hlen
      have HS := Lib.hid hS
      have HN := Lib.hid hN
      clear hlen hS hT hH hN
      have hz' : n = 0 ∨ (¬ n = 0 ∧ args = []) := by
        by_cases h0 : n = 0
        · exact .inl h0
        · refine .inr ⟨h0, ?_⟩
          rcases hz with h | h
          · exact absurd h h0
          · exact List.length_eq_zero_iff.1 (by omega)
      clear hz hlen'
      rcases hz' with hz' | ⟨hz', hz2⟩
      · subst hz'
        go_enter Tryd.func49, Tryd.ntmps49
        go_wp2_with (first | (at_lookup; refine wpList_forms_ok rfl _ _ rfl rfl rfl (hF.keep ((Below.refl _ _).alloc (Nat.le_refl _) _) hm) ?_; rw [HK.out, ← HLEN.out]))
        go_loopw [2, 55] (fun l i wr => ∃ (j : Nat) (x : Int), i = .int .i64 j ∧ l = .int .i64 x ∧ j ≤ args.length ∧ 0 ≤ x ∧ x ≤ 2000 ∧ Hid (fitsL (args.drop j) x = fitsL args (left - 1)) ∧ Below w.heap.size w wr) (fun _ i _ => args.length - (intOf i).toNat)
        case atStart => exact ⟨0, left - 1, rfl, rfl, Nat.zero_le _, by omega, by omega, rfl, ((Below.refl _ _).alloc (Nat.le_refl _) _).alloc (by simp) _⟩
        case round =>
          obtain ⟨j, x, rfl, rfl, hj, hx0, hx1, HX, hb⟩ := hrel
          by_cases hlt : j < args.length
          · obtain ⟨a, ha⟩ : ∃ a, args[j]? = some a := ⟨_, List.getElem?_eq_getElem hlt⟩
            obtain ⟨b, o, A2, cc, rfl, _, hbs, c0, c1, c2, hTa⟩ := HS.out.at_ ha
            have d0 := (hb.cell (p := ⟨b, o + j * 3, none⟩) hbs).trans c0
            have d1 := (hb.cell (p := ⟨b, o + j * 3 + 1, none⟩) hbs).trans c1
            have d2 := (hb.cell (p := ⟨b, o + j * 3 + 2, none⟩) hbs).trans c2
            have HA := Lib.hid ha
            clear ha c0 c1 c2
            have hic := ih a _ m x (wr.alloc (.cells #[.int .i64 a.k, .int .i64 a.n, .slice A2 a.args.length cc] 25)) (by have := size_at (k := k) (n := 0) HA.out; have := HN.out; omega) ((hTa.bel hb).bel ((Below.refl _ _).alloc (Nat.le_refl _) _)) ((hF.keep hb hm).bel ((Below.refl _ _).alloc (Nat.le_refl _) _)) hx0 hx1
            go_wp2_with (first | (go_at_call 49; refine hic.mono ?_; rintro e w1 ⟨rfl, hb1⟩))
            · have hf : (fits a x).1 = false := by simpa using (by assumption : (!(fits a x).fst) = true)
              go_ret2
              exact ⟨ret_bi (by rw [HE.out, ← HX.out, fitsL_drop HA.out, if_neg (by rw [hf]; simp)]), bthen (balloc hb _) hb1⟩
            · have hf : (fits a x).1 = true := by simpa using (by assumption : (!(fits a x).fst) = false)
              go_roundw
              case rel =>
                refine ⟨j + 1, (fits a x).2, by go_num, rfl, by omega, fits_nn hx0 hf, by have := fits_le a x; omega, ?_, bthen (balloc hb _) hb1⟩
                unfold Hid
                rw [← HX.out, fitsL_drop HA.out, if_pos hf]
              case measure => simp [intOf]; omega
          · obtain rfl : j = args.length := by omega
            go_wp2
            go_ret2
            exact ⟨ret_bi (by rw [HE.out, ← HX.out, List.drop_length]; rfl), hb⟩
      · subst hz2
        go_enter Tryd.func49, Tryd.ntmps49
        go_wp2_with (first | (at_lookup; refine wpList_forms_ok rfl _ _ rfl rfl rfl (hF.keep ((Below.refl _ _).alloc (Nat.le_refl _) _) hm) ?_; rw [HK.out, ← HLEN.out]))
        refine wp_loop_rounds 1 ?_; rw [rounds_succ]
        go_wp2
        go_ret2
        exact ⟨ret_bi (by rw [HE.out]; rfl), ((Below.refl _ _).alloc (Nat.le_refl _) _).alloc (by simp) _⟩
    · have HE : Hid (fits (.mk k n args) left = (false, left - 1)) := by
        unfold Hid; rw [fits, if_neg (by rw [Bool.and_eq_true, decide_eq_true_eq]; exact fun h => hK ⟨h.1, by omega⟩)]
      have HH := Lib.hid hK
      clear hK hS hT
      go_enter Tryd.func49, Tryd.ntmps49
      go_wp2_with (first | (at_lookup; refine wpList_forms_ok rfl _ _ rfl rfl rfl (hF.keep ((Below.refl _ _).alloc (Nat.le_refl _) _) hm) ?_))
      all_goals first
        | (exfalso; exact fits_no HH.out (by assumption) (by assumption) (by assumption) (by assumption) (.inl (by assumption)))
        | (exfalso; exact fits_no HH.out (by assumption) (by assumption) (by assumption) (by assumption) (fits_or (by assumption) (by assumption)))
        | (go_ret2; exact ⟨ret_bi (by rw [HE.out]), ((Below.refl _ _).alloc (Nat.le_refl _) _).alloc (by simp) _⟩)
end Go.Proofs.YtfhpnkmhppfeiaaDoor
/- terms.text: the text of a term. -/
set_option linter.unusedVariables false
set_option linter.unusedSimpArgs false
namespace Go.Proofs.YtfhpnkmhppfeiaaDoor
open Go.RowKit Go.Proofs
theorem info9 : (Tryd.prog.info? 9).map (fun i => (i.zero, i.size, i.bytes)) = some (some (.string ⟨#[]⟩), 1, 16) := by kernel_rfl
theorem okT_at {k n : Int} {args : List Tm} {j : Nat} {a : Tm} (hf : form (.mk k n args) = true) (hs : size (.mk k n args) ≤ 2000) (h : args[j]? = some a) : form a = true ∧ size a ≤ 2000 :=
  ⟨form_mem hf (List.mem_of_getElem? h), by have := size_at (k := k) (n := n) h; omega⟩
set_option maxRecDepth 100000 in
set_option maxHeartbeats 1000000 in
theorem text_any (N : Nat) : ∀ (t : Tm) (v : Value) (m : Nat) (w : World), size t ≤ N → form t = true → size t ≤ 2000 → TR w Any t v → FormsAt w m → Tab w →
    Calls Tryd.prog 50 #[v, .map (some m)] w fun e w' => e = .returned (.string ⟨(txt t).toArray⟩) ∧ Below w.heap.size w w' := by
  induction N with
  | zero => intro t v m w h; have := size_pos t; omega
  | succ N ih =>
    rintro ⟨k, n, args⟩ v m w hN hf hsz hT hF hTab
    obtain ⟨s, rfl, hk, hn, hS⟩ := hT.inv
    obtain ⟨A, c, rfl, hc1, hc2⟩ := hS.form
    have hm := hF.lt
    have hshort := txt_short hT.rng hsz
    have HF := Lib.hid hf
    have HSZ := Lib.hid hsz
    have HS := Lib.hid hS
    have HN := Lib.hid hN
    have HTab := Lib.hid hTab
    have HSH := Lib.hid hshort
    clear hf hsz hS hN hT hTab hshort
    by_cases ha : arity k = 0
    · have HE : Hid (txt (.mk k n args) = kname k ++ Lib.itoa n) := by unfold Hid; rw [txt, if_pos ha]
      have HA := Lib.hid ha
      clear ha
      have f1 : ∀ x : Later (w.heap.size + 2) ((w.alloc (.cells #[.int .i64 k, .int .i64 n, .slice A args.length c] 25)).alloc (.cells #[.string ⟨(kname k).toArray⟩, .int .i64 0] 86)), x.w.cell? ⟨w.heap.size + 1, 0, none⟩ = some (.string ⟨(kname k).toArray⟩) := fun x => x.cell (by go_simp) (by simp)
      have f2 : ∀ x : Later (w.heap.size + 2) ((w.alloc (.cells #[.int .i64 k, .int .i64 n, .slice A args.length c] 25)).alloc (.cells #[.string ⟨(kname k).toArray⟩, .int .i64 0] 86)), x.w.cell? ⟨w.heap.size, 1, none⟩ = some (.int .i64 n) := fun x => x.cell (by go_simp) (by simp)
      have HT2 : Hid (∀ x : Later (w.heap.size + 2) ((w.alloc (.cells #[.int .i64 k, .int .i64 n, .slice A args.length c] 25)).alloc (.cells #[.string ⟨(kname k).toArray⟩, .int .i64 0] 86)), Tab x.w) := fun x => HTab.out.later (balloc (bself w _) _) (by omega) x
      have ap := bs_append (kname k) (Lib.itoa n)
      have bz : (kname k).length + (Lib.itoa n).length ≤ 9223372036854775807 := by have := HSH.out; rw [HE.out, List.length_append] at this; omega
      have z1 := bs_size (kname k)
      have z2 := bs_size (Lib.itoa n)
      go_enter Tryd.func50, Tryd.ntmps50
      go_wp2_with (first | (at_lookup; refine wpList_forms rfl _ _ rfl rfl rfl (hF.keep ((Below.refl _ _).alloc (Nat.le_refl _) _) hm) ?_; rw [HA.out]))
      refine wp_region_later (w.heap.size + 2) (by kernel_rfl) ?_
      repeat (first | go_big_quiet_step ((go_at_call 48; exact later_call (itoa_any _ hn _ (HT2.out _)) (by simp))) | quiet_step ((go_at_call 48; exact later_call (itoa_any _ hn _ (HT2.out _)) (by simp))))
      refine wpQuiet_nil ?_
      intro x
      go_wp2
      go_ret
      exact ⟨ret_s HE.out.symm, x.bel (balloc (bself w _) _) (by omega)⟩
    · have HE : Hid (txt (.mk k n args) = kname k ++ [40] ++ Lib.join (txtL args) [44] ++ [41]) := by unfold Hid; rw [txt, if_neg ha]
      have hlen := (headOK_iff.1 (form_head HF.out).1).2.1
      have har : (((arity k : Nat) : Int) == 0) = false := by simp; omega
      have hl3 : args.length ≤ 1000 := by have := (form_head HF.out).1; rw [hlen]; unfold arity; repeat' split
                                          all_goals omega
      have HA := Lib.hid ha
      have HL := Lib.hid hlen
      clear ha hlen
      obtain ⟨i0, hi, hz0, hz1, hz2⟩ := info_parts info9
      go_enter Tryd.func50, Tryd.ntmps50
      go_wp2_with (first | (at_lookup; refine wpList_forms rfl _ _ rfl rfl rfl (hF.keep ((Below.refl _ _).alloc (Nat.le_refl _) _) hm) ?_))
      obtain ⟨W2, hW2⟩ : ∃ W2 : World, W2 = (w.alloc (.cells #[.int .i64 k, .int .i64 n, .slice A args.length c] 25)).alloc (.cells #[.string ⟨(kname k).toArray⟩, .int .i64 (arity k)] 86) := ⟨_, rfl⟩
      rw [← hW2]
      have HW2 := Lib.hid hW2
      clear hW2
      have hb2 : Below w.heap.size w W2 := by rw [HW2.out]; exact balloc (bself w _) _
      have hs2 : W2.heap.size = w.heap.size + 2 := by rw [HW2.out]; simp
      have c2 : W2.cell? ⟨w.heap.size + 1, 0, none⟩ = some (.string ⟨(kname k).toArray⟩) := by rw [HW2.out]; go_simp
      have HS2 := Lib.hid hs2
      have HB2 := Lib.hid hb2
      clear hs2 hb2
      go_loopw [6, 25] (fun l i wr => ∃ (j : Nat), i = .int .i64 j ∧ j ≤ args.length ∧ wr.ownsRow (w.heap.size + 2) 9 1 l j (strs (txtL (args.take j))) ∧ Below (w.heap.size + 2) W2 wr) (fun _ i _ => args.length - (intOf i).toNat)
      case atStart => exact ⟨0, rfl, Nat.zero_le _, World.ownsRow_nil _ _ _ _, Below.refl _ _⟩
      case round =>
        obtain ⟨j, rfl, hj, hown, hb⟩ := hrel
        by_cases hlt : j < args.length
        · obtain ⟨a, ha⟩ : ∃ a, args[j]? = some a := ⟨_, List.getElem?_eq_getElem hlt⟩
          obtain ⟨b, o, A2, cc, rfl, _, hbs, c0, c1, c2, hTa⟩ := HS.out.at_ ha
          have hbw : Below w.heap.size w wr := HB2.out.trans (hb.mono (by omega))
          have d0 := (hbw.cell (p := ⟨b, o + j * 3, none⟩) hbs).trans c0
          have d1 := (hbw.cell (p := ⟨b, o + j * 3 + 1, none⟩) hbs).trans c1
          have d2 := (hbw.cell (p := ⟨b, o + j * 3 + 2, none⟩) hbs).trans c2
          have HAA := Lib.hid ha
          have HHB := Lib.hid hb
          have HHO := Lib.hid hown
          have hok := okT_at HF.out HSZ.out ha
          have hic := ih a _ m (wr.alloc (.cells #[.int .i64 a.k, .int .i64 a.n, .slice A2 a.args.length cc] 25)) (by have := size_at (k := k) (n := n) HAA.out; have := HN.out; omega) hok.1 hok.2 ((hTa.bel hbw).bel (bself wr _)) ((hF.bel hbw).bel (bself wr _)) ((HTab.out.bel hbw).bel (bself wr _))
          clear ha c0 c1 c2 hb hown hok
          go_wp2_with (first
            | (go_at_call 50; refine hic.mono ?_; rintro e w1 ⟨rfl, hb1⟩; have hown1 := own_bel (HHO.out.alloc _) hb1)
            | (at_builtin; refine wpList_append_own _ rfl _ _ 64 rfl (w.heap.size + 2) 9 i0 (.string ⟨#[]⟩) 1 16 Tryd.underlying64 hi hz0 hz1 hz2 rfl (by decide) _ _ _ rfl (hown1.alloc _) ⟨w1.heap.size, 0, none⟩ 1 1 [.string ⟨(txt a).toArray⟩] rfl rfl (cell_one_new _ _ _) ?_ ?_ ?_ ?_ ?_; rotate_right; intro v' w2 hown2 hg2 _))
          · go_roundw
            case rel =>
              refine ⟨j + 1, by go_num, by omega, ?_, ?_⟩
              · rw [List.take_add_one, HAA.out]
                simpa [txtL_map, strs] using hown2
              · exact bgrow (bcall HHB.out (Nat.le_of_eq HS2.out.symm) hb1).1 (bcall HHB.out (Nat.le_of_eq HS2.out.symm) hb1).2 hg2 (own_base HHO.out)
            case measure => simp [intOf]; omega
          case refine_1 => intro u hu; simp at hu; subst hu; rfl
          case refine_2 => unfold maxLen; omega
          case refine_3 => omega
          case refine_4 => have := (bcall HHB.out (Nat.le_of_eq HS2.out.symm) hb1).2; rw [World.size_alloc]; omega
        · obtain rfl : j = args.length := by omega
          have hc := (hb.cell (p := ⟨w.heap.size + 1, 0, none⟩) (by simp)).trans c2
          have HHB := Lib.hid hb
          have hwr := Lib.hid (show w.heap.size + 2 ≤ wr.heap.size by have := hb.size; have := HS2.out; omega)
          have f1 : ∀ x : Later wr.heap.size wr, x.w.cell? ⟨w.heap.size + 1, 0, none⟩ = some (.string ⟨(kname k).toArray⟩) := fun x => x.cell hc (by have := hwr.out; simp; omega)
          have hj : Hid (∀ x : Later wr.heap.size wr, Calls Tryd.prog 61 #[_, .string ⟨#[44]⟩] x.w fun e w' => e = .returned (.string ⟨(Lib.join (txtL args) [44]).toArray⟩) ∧ Below x.w.heap.size x.w w') := fun x => join_any (txtL args) x.w (own_bel (by rw [List.take_length] at hown; exact hown) x.2) (by rw [txtL_map, List.length_map]; exact hl3) (by have := HSH.out; rw [HE.out] at this; simp at this; omega)
          clear hb hown
          have ap : (⟨(kname k).toArray⟩ : ByteArray) ++ ⟨#[40]⟩ = ⟨(kname k ++ [40]).toArray⟩ := bs_append (kname k) [40]
          have ap2 := bs_append (kname k ++ [40]) (Lib.join (txtL args) [44])
          have ap3 : (⟨(kname k ++ 40 :: Lib.join (txtL args) [44]).toArray⟩ : ByteArray) ++ ⟨#[41]⟩ = ⟨(kname k ++ 40 :: Lib.join (txtL args) [44] ++ [41]).toArray⟩ := bs_append _ [41]
          have z1 := bs_size (kname k)
          have z2 := bs_size (kname k ++ [40])
          have z3 := bs_size (Lib.join (txtL args) [44])
          have z4 := bs_size (kname k ++ [40] ++ Lib.join (txtL args) [44])
          have bz : (kname k).length + 1 + (Lib.join (txtL args) [44]).length + 1 ≤ 9223372036854775807 := by have := HSH.out; rw [HE.out] at this; simp at this; omega
          go_wp2_with fail
          refine wp_region_later wr.heap.size (by kernel_rfl) ?_
          repeat (first | go_big_quiet_step ((go_at_call 61; exact later_call (hj.out _) (Nat.le_refl _))) | quiet_step ((go_at_call 61; exact later_call (hj.out _) (Nat.le_refl _))))
          refine wpQuiet_nil ?_
          intro x
          go_wp2
          go_ret
          exact ⟨ret_s (by rw [HE.out]; simp), x.bel (HB2.out.trans (HHB.out.mono (by omega))) (by have := hwr.out; omega)⟩
end Go.Proofs.YtfhpnkmhppfeiaaDoor
/- slices.Reverse of two terms. -/
set_option linter.unusedVariables false
set_option linter.unusedSimpArgs false
namespace Go.Proofs.YtfhpnkmhppfeiaaDoor
open Go.RowKit Go.Proofs
set_option maxRecDepth 100000 in
set_option maxHeartbeats 1000000 in
theorem rev2_any (g cap : Nat) (x0 x1 x2 y0 y1 y2 : Value) (w : World) (tail : List Value)
    (hx0 : ∃ q z, x0 = .int q z) (hx1 : ∃ q z, x1 = .int q z) (hx2 : ∃ A n c, x2 = .slice A n c) (hy0 : ∃ q z, y0 = .int q z) (hy1 : ∃ q z, y1 = .int q z) (hy2 : ∃ A n c, y2 = .slice A n c)
    (hh : w.heap[g]? = some (.cells (x0 :: x1 :: x2 :: y0 :: y1 :: y2 :: tail).toArray 25 (0, 0))) :
    Calls Tryd.prog 64 #[.slice (some ⟨g, 0, none⟩) 2 cap] w fun e w' => e = .returned (.tuple #[]) ∧ w'.heap[g]? = some (.cells (y0 :: y1 :: y2 :: x0 :: x1 :: x2 :: tail).toArray 25 (0, 0)) ∧ Grew (fun b => b = g) w w' := by
  obtain ⟨q0, z0, rfl⟩ := hx0
  obtain ⟨q1, z1, rfl⟩ := hx1
  obtain ⟨A2, n2, c2, rfl⟩ := hx2
  obtain ⟨q3, z3, rfl⟩ := hy0
  obtain ⟨q4, z4, rfl⟩ := hy1
  obtain ⟨A5, n5, c5, rfl⟩ := hy2
  have f0 := (blk_cell hh 0).trans rfl
  have f1 := (blk_cell hh 1).trans rfl
  have f2 := (blk_cell hh 2).trans rfl
  have f3 := (blk_cell hh 3).trans rfl
  have f4 := (blk_cell hh 4).trans rfl
  have f5 := (blk_cell hh 5).trans rfl
  have e0 := blk_free hh 0
  have e1 := blk_free hh 1
  have e2 := blk_free hh 2
  have e3 := blk_free hh 3
  have e4 := blk_free hh 4
  have e5 := blk_free hh 5
  have HH := Lib.hid hh
  clear hh
  go_enter Tryd.func64, Tryd.ntmps64
  go_wp2_with fail
  refine wp_loop_rounds 2 ?_; rw [rounds_succ]
  go_wp2_with fail
  go_region
  go_wp2_with fail
  rw [rounds_succ]
  go_wp2_with fail
  go_end0
  refine ⟨rfl, ?_, ?_⟩
  · have := blk_set (blk_set (blk_set (blk_set (blk_set (blk_set HH.out 0 (.int q3 z3)) 1 (.int q4 z4)) 2 (.slice A5 n5 c5)) 3 (.int q0 z0)) 4 (.int q1 z1)) 5 (.slice A2 n2 c2)
    rw [show ∀ W : World, W.drew.heap = W.heap from fun _ => rfl, this]
    simp
  · refine Grew.trans ?_ (Grew.drew _ _)
    refine Grew.setCell (S := fun b => b = g) ?_ rfl _
    refine Grew.setCell (S := fun b => b = g) ?_ rfl _
    refine Grew.setCell (S := fun b => b = g) ?_ rfl _
    refine Grew.setCell (S := fun b => b = g) ?_ rfl _
    refine Grew.setCell (S := fun b => b = g) ?_ rfl _
    exact Grew.setCell (S := fun b => b = g) (Grew.refl _ _) rfl _
/-- slices.Reverse of two terms in a row of the call's own. -/
theorem reverse_any {base : Nat} {x y : Tm} {l : Value} {w : World} (h : OTS w base [x, y] l) :
    Calls Tryd.prog 64 #[l] w fun e w' => e = .returned (.tuple #[]) ∧ OTS w' base [y, x] l ∧ Grew (fun b => l.ownBlock = some b) w w' := by
  obtain ⟨cs, h, hr⟩ := h
  rcases h.2 with ⟨rfl, hn⟩ | ⟨g, cap, cur, rfl, hb, hh, hc1, hc2, hcur, htake⟩
  · simp at hn
  have hlen := h.1
  obtain ⟨x0, x1, x2, ex0, ex1, ex2, hx⟩ := hr 0 x rfl
  obtain ⟨y0, y1, y2, ey0, ey1, ey2, hy⟩ := hr 1 y rfl
  have shape : ∀ {D : Nat → Prop} {t : Tm} {a b c : Value}, TR w D t (.agg #[a, b, c]) → (∃ q z, a = .int q z) ∧ (∃ q z, b = .int q z) ∧ (∃ A n k, c = .slice A n k) := fun {D} {t} {a} {b} {c} hT => by
    obtain ⟨k, n, args⟩ := t
    obtain ⟨s, e, _, _, hs⟩ := hT.inv
    obtain ⟨A, cc, rfl, _⟩ := hs.form
    simp only [Value.agg.injEq, Array.mk.injEq, List.cons.injEq, and_true] at e
    obtain ⟨rfl, rfl, rfl⟩ := e
    exact ⟨⟨_, _, rfl⟩, ⟨_, _, rfl⟩, ⟨_, _, _, rfl⟩⟩
  have ecs : cs = [x0, x1, x2, y0, y1, y2] := by
    match cs, hlen with
    | [a, b, c, d, e, f], _ => simp_all
  subst ecs
  have ecur : cur = (x0 :: x1 :: x2 :: y0 :: y1 :: y2 :: cur.toList.drop 6).toArray := by
    have h6 : cur.toList.take 6 = [x0, x1, x2, y0, y1, y2] := htake
    have := List.take_append_drop 6 cur.toList
    rw [h6] at this
    rw [← Array.toList_inj]
    exact this.symm
  obtain ⟨a1, a2, a3⟩ := shape hx
  obtain ⟨b1, b2, b3⟩ := shape hy
  refine (rev2_any g cap x0 x1 x2 y0 y1 y2 w (cur.toList.drop 6) a1 a2 a3 b1 b2 b3 (by rw [← ecur]; exact hh)).mono ?_
  rintro e w' ⟨rfl, hh', hg⟩
  have keep : ∀ {t : Tm} {v : Value}, TR w (fun b => base ≤ b ∧ (Value.slice (some ⟨g, 0, none⟩) 2 cap).ownBlock ≠ some b) t v → TR w' (fun b => base ≤ b ∧ (Value.slice (some ⟨g, 0, none⟩) 2 cap).ownBlock ≠ some b) t v := fun hT => hT.grew hg fun k hk e => hk.2 (by rw [e]; rfl)
  refine ⟨rfl, ⟨[y0, y1, y2, x0, x1, x2], ⟨rfl, .inr ⟨g, cap, _, rfl, hb, hh', hc1, hc2, ?_, by simp⟩⟩, fun j a ha => ?_⟩, hg.mono fun k _ e => by rw [e]; rfl⟩
  · rw [← hcur]
    have := congrArg Array.size ecur
    simp at this ⊢
    omega
  · match j, ha with
    | 0, ha => simp at ha; subst ha; exact ⟨y0, y1, y2, rfl, rfl, rfl, keep hy⟩
    | 1, ha => simp at ha; subst ha; exact ⟨x0, x1, x2, rfl, rfl, rfl, keep hx⟩
end Go.Proofs.YtfhpnkmhppfeiaaDoor
