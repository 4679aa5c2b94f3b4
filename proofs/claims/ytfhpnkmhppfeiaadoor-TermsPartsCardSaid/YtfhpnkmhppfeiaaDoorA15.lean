/- knowledge's apart. -/
import Derived.Test.YtfhpnkmhppfeiaaDoorA14
set_option linter.unusedVariables false
set_option linter.unusedSimpArgs false
namespace Go.Proofs.YtfhpnkmhppfeiaaDoor
open Go.RowKit Go.Proofs
theorem TS.nil (w : World) (D : Nat → Prop) : TS w D [] (.slice none 0 0) := ⟨none, 0, fun _ => .bool false, rfl, Nat.le_refl _, by omega, fun h => by simp at h, fun j a ha => by simp at ha⟩
theorem TS.drop1 {w : World} {D : Nat → Prop} {x : Tm} {r : List Tm} {b o n c : Nat} (h : TS w D (x :: r) (.slice (some ⟨b, o, none⟩) n c)) : TS w D r (.slice (some ⟨b, o + 3, none⟩) r.length (c - 1)) := by
  obtain ⟨A, c', V, e, hl, hc, hA, hr⟩ := h
  cases e
  simp only [List.length_cons] at hl hc
  refine ⟨some ⟨b, o + 3, none⟩, c - 1, fun j => V (j + 1), rfl, by omega, by omega, fun hlt => ?_, fun j a ha => hr (j + 1) a (by simpa using ha)⟩
  obtain ⟨b', o', e, hD, hrow⟩ := hA (by simp)
  cases e
  refine ⟨b, o + 3, rfl, hD, fun j hj => ?_⟩
  have := hrow (j + 1) (by simp; omega)
  rwa [show o + (j + 1) * 3 = o + 3 + j * 3 by omega] at this
theorem two_args {k n : Int} {args : List Tm} (h : form (.mk k n args) = true) (h1 : 4 ≤ k) (h2 : k ≤ 8) : ∃ x y, args = [x, y] := by
  have := (headOK_iff.1 (form_head h).1).2.1
  rw [ar2 h1 h2] at this
  match args, this with
  | [x, y], _ => exact ⟨x, y, rfl⟩
set_option maxRecDepth 100000 in
set_option maxHeartbeats 2000000 in
theorem apart_any {D Dm : Nat → Prop} {b : Nat} {ts : List Tm} (t : Tm) (v : Value) (w : World) (hK : KM w Dm b ts) (hf : form t = true) (hs : size t ≤ 2000) (hT : TR w D t v) (hTab : Tab w) :
    Calls Tryd.prog 59 #[.map (some b), v] w fun e w' => ∃ v', e = .returned v' ∧ TS w' D (apartT ts t) v' ∧ Below w.heap.size w w' := by
  obtain ⟨k, n, args⟩ := t
  obtain ⟨s, rfl, hk, hn, hS⟩ := hT.inv
  obtain ⟨A, c, rfl, hc1, hc2⟩ := hS.form
  have HS := Lib.hid hS
  have HTab := Lib.hid hTab
  have HF := Lib.hid hf
  have HSZ := Lib.hid hs
  have HK := Lib.hid hK
  clear hS hTab hf hs hK hT
  by_cases h7 : k = 7
  · subst h7
    go_enter Tryd.func59, Tryd.ntmps59
    go_wp2_with fail
    refine bodyPost_ret (v := .slice A args.length c) (by simp [results, Tryd.results59, go_sem]) rfl ⟨_, rfl, ?_, bself _ _⟩
    exact HS.out.bel (bself _ _)
  have e7 : (k == 7) = false := by rw [beq_eq_false_iff_ne]; exact h7
  by_cases h5 : k = 5
  · subst h5
    obtain ⟨x, y, rfl⟩ := two_args HF.out (by omega) (by omega)
    obtain ⟨bb, o, A', c', rfl, _⟩ := HS.out.at_ (j := 0) rfl
    have HD := Lib.hid (HS.out.drop1)
    simp only [List.length_cons, List.length_nil] at hc1
    go_enter Tryd.func59, Tryd.ntmps59
    go_wp2_with fail
    refine bodyPost_ret (v := .slice (some ⟨bb, o + 3, none⟩) 1 (c - 1)) (by simp [results, Tryd.results59, go_sem]) rfl ⟨_, rfl, ?_, bself _ _⟩
    exact HD.out.bel (bself _ _)
  have e5 : (k == 5) = false := by rw [beq_eq_false_iff_ne]; exact h5
  by_cases h4 : k = 4
  · subst h4
    obtain ⟨x, y, rfl⟩ := two_args HF.out (by omega) (by omega)
    obtain ⟨bb, o, A', c', rfl, _, hbs, c0, c1, c2, hTx⟩ := HS.out.at_ (j := 0) rfl
    have HD := Lib.hid (HS.out.drop1)
    simp only [List.length_cons, List.length_nil, Nat.zero_mul, Nat.add_zero] at hc1 c0 c1 c2
    have hcan := can_any x _ (w.alloc (.cells #[.int .i64 4, .int .i64 n, .slice (some ⟨bb, o, none⟩) 2 c] 25)) (HK.out.bel (bself w _)) (form_mem HF.out (by simp)) (by have := size_mem (a := x) (l := [x, y]) (by simp); have := HSZ.out; simp only [size] at this; omega) ((hTx.bel (bself w _)).any) (HTab.out.bel (bself w _))
    have hap : apartT ts (.mk 4 n [x, y]) = if canB ts x = true then [y] else [] := by simp [apartT, apartK]
    rw [hap]
    clear hap hTx
    have HB0 : Hid (Below w.heap.size w (w.alloc (.cells #[.int .i64 4, .int .i64 n, .slice (some ⟨bb, o, none⟩) 2 c] 25))) := bself w _
    cases hc : canB ts x with
    | true =>
      rw [hc] at hcan
      have d0 := heap_alloc_new w (.cells #[.int .i64 4, .int .i64 n, .slice (some ⟨bb, o, none⟩) 2 c] 25)
      go_enter Tryd.func59, Tryd.ntmps59
      go_wp2_with (go_at_call 39; refine hcan.mono ?_; rintro e w2 ⟨rfl, hb⟩; have HB := Lib.hid hb; obtain ⟨r0, r1, r2, _, _, _⟩ := cell3_load ((hb.block w.heap.size (by simp)).trans d0); clear hb)
      refine bodyPost_ret (v := .slice (some ⟨bb, o + 3, none⟩) 1 (c - 1)) (by simp [results, Tryd.results59, go_sem]) rfl ⟨_, rfl, ?_, bthen HB0.out HB.out⟩
      exact HD.out.bel (bthen HB0.out HB.out)
    | false =>
      rw [hc] at hcan
      go_enter Tryd.func59, Tryd.ntmps59
      go_wp2_with (go_at_call 39; refine hcan.mono ?_; rintro e w2 ⟨rfl, hb⟩; have HB := Lib.hid hb; clear hb)
      refine bodyPost_ret (v := .slice none 0 0) (by simp [results, Tryd.results59, go_sem]) rfl ⟨_, rfl, ?_, bthen HB0.out HB.out⟩
      exact TS.nil _ _
  · have e4 : (k == 4) = false := by rw [beq_eq_false_iff_ne]; exact h4
    have hap : apartT ts (.mk k n args) = [] := by simp [apartT, apartK, h7, h5, h4]
    rw [hap]
    clear hap h7 h5 h4
    go_enter Tryd.func59, Tryd.ntmps59
    go_wp2_with fail
    refine bodyPost_ret (v := .slice none 0 0) (by simp [results, Tryd.results59, go_sem]) rfl ⟨_, rfl, TS.nil _ _, bself _ _⟩
end Go.Proofs.YtfhpnkmhppfeiaaDoor
