/- name, Same. -/
import Derived.Test.YtfhpnkmhppfeiaaDoorA6
set_option linter.unusedVariables false
set_option linter.unusedSimpArgs false
namespace Go.Proofs.YtfhpnkmhppfeiaaDoor
open Go.RowKit Go.Proofs
theorem bal1 {w w' : World} {o : Obj} (h : Below (w.heap.size + 1) (w.alloc o) w') : Below w.heap.size w w' :=
  bthen (bself w o) (by rw [World.size_alloc]; exact h)

set_option maxRecDepth 100000 in
set_option maxHeartbeats 1000000 in
theorem name_any (t : Tm) (v : Value) (w : World) (hf : form t = true) (hs : size t ≤ 2000) (hT : TR w Any t v) (hTab : Tab w) :
    Calls Tryd.prog 53 #[v] w fun e w' => e = .returned (.string ⟨(txt (ord t)).toArray⟩) ∧ Below w.heap.size w w' := by
    obtain ⟨A, c, rfl⟩ := hT.form3
    have HT := Lib.hid hT
    have HTab := Lib.hid hTab
    have HF := Lib.hid hf
    have HS := Lib.hid hs
    have hfo := forms_any (w.alloc (.cells #[.int .i64 t.k, .int .i64 t.n, .slice A t.args.length c] 25))
    rw [World.size_alloc] at hfo
    clear hT hTab hf hs
    go_enter Tryd.func53, Tryd.ntmps53
    go_wp2_with fail
    refine hfo.mono ?_
    rintro e W1 ⟨rfl, hF, hb⟩
    have HB1 := Lib.hid (bal1 hb)
    have hA := (hb.block w.heap.size (by simp)).trans (heap_alloc_new w _)
    obtain ⟨q0, q1, q2, _, _, _⟩ := cell3_load hA
    have HFM := Lib.hid hF
    have hic := order_any _ t _ _ W1 (Nat.le_refl _) HF.out HS.out (HT.out.bel HB1.out) HFM.out (HTab.out.bel HB1.out)
    clear hb hA hF hfo
    go_wp2_with fail
    refine hic.mono ?_
    rintro e w2 ⟨v2, rfl, hT2, hb⟩
    have HB2 := Lib.hid (bthen HB1.out hb)
    have hit := text_any _ (ord t) _ _ w2 (Nat.le_refl _) (by rw [form_ord]; exact HF.out) (by rw [size_ord]; exact HS.out) hT2.any (HFM.out.bel hb) (HTab.out.bel HB2.out)
    clear hT2 hb hic q0 q1 q2
    go_wp2_with fail
    refine hit.mono ?_
    rintro e w3 ⟨rfl, hb⟩
    go_wp2_with fail
    go_ret
    exact ⟨rfl, bthen HB2.out hb⟩

/-- Two terms of the same name. -/
def sameS (a b : Tm) : Bool := may a && may b && decide (txt (ord a) = txt (ord b))
set_option maxRecDepth 100000 in
set_option maxHeartbeats 1000000 in
theorem Same_any (a b : Tm) (va vb : Value) (w : World) (hA : TR w Any a va) (hB : TR w Any b vb) (hTab : Tab w) :
    Calls Tryd.prog 34 #[va, vb] w fun e w' => e = .returned (.bool (sameS a b)) ∧ Below w.heap.size w w' := by
    obtain ⟨A, c, rfl⟩ := hA.form3
    obtain ⟨A', c', rfl⟩ := hB.form3
    have hbel : ∀ W, Below (w.heap.size + 2) ((w.alloc (.cells #[.int .i64 a.k, .int .i64 a.n, .slice A a.args.length c] 25)).alloc (.cells #[.int .i64 b.k, .int .i64 b.n, .slice A' b.args.length c'] 25)) W → Below w.heap.size w W :=
      fun W h => (balloc (bself w _) _).trans (h.mono (by omega))
    have hma := fun x : Later (w.heap.size + 2) ((w.alloc (.cells #[.int .i64 a.k, .int .i64 a.n, .slice A a.args.length c] 25)).alloc (.cells #[.int .i64 b.k, .int .i64 b.n, .slice A' b.args.length c'] 25)) => may_any a _ x.w (hA.bel (hbel _ x.2))
    have hmb := fun x : Later (w.heap.size + 2) ((w.alloc (.cells #[.int .i64 a.k, .int .i64 a.n, .slice A a.args.length c] 25)).alloc (.cells #[.int .i64 b.k, .int .i64 b.n, .slice A' b.args.length c'] 25)) => may_any b _ x.w (hB.bel (hbel _ x.2))
    have hna := fun (h : may a = true) (x : Later (w.heap.size + 2) ((w.alloc (.cells #[.int .i64 a.k, .int .i64 a.n, .slice A a.args.length c] 25)).alloc (.cells #[.int .i64 b.k, .int .i64 b.n, .slice A' b.args.length c'] 25))) => name_any a _ x.w ((may_iff a).1 h).1 ((may_iff a).1 h).2 (hA.bel (hbel _ x.2)) (hTab.bel (hbel _ x.2))
    have hnb := fun (h : may b = true) (x : Later (w.heap.size + 2) ((w.alloc (.cells #[.int .i64 a.k, .int .i64 a.n, .slice A a.args.length c] 25)).alloc (.cells #[.int .i64 b.k, .int .i64 b.n, .slice A' b.args.length c'] 25))) => name_any b _ x.w ((may_iff b).1 h).1 ((may_iff b).1 h).2 (hB.bel (hbel _ x.2)) (hTab.bel (hbel _ x.2))
    have HBel := Lib.hid hbel
    clear hA hB hTab hbel
    have HH := heap2 w (.cells #[.int .i64 a.k, .int .i64 a.n, .slice A a.args.length c] 25) (.cells #[.int .i64 b.k, .int .i64 b.n, .slice A' b.args.length c'] 25)
    obtain ⟨p0, p1, p2, _, _, _⟩ := cell3_load HH.1
    obtain ⟨r0, r1, r2, _, _, _⟩ := cell3_load HH.2
    have l0 : ∀ x : Later (w.heap.size + 2) ((w.alloc (.cells #[.int .i64 a.k, .int .i64 a.n, .slice A a.args.length c] 25)).alloc (.cells #[.int .i64 b.k, .int .i64 b.n, .slice A' b.args.length c'] 25)), x.w.cell? ⟨w.heap.size, 0, none⟩ = some (.int .i64 a.k) := fun x => x.cell p0 (by simp)
    have l1 : ∀ x : Later (w.heap.size + 2) ((w.alloc (.cells #[.int .i64 a.k, .int .i64 a.n, .slice A a.args.length c] 25)).alloc (.cells #[.int .i64 b.k, .int .i64 b.n, .slice A' b.args.length c'] 25)), x.w.cell? ⟨w.heap.size, 1, none⟩ = some (.int .i64 a.n) := fun x => x.cell p1 (by simp)
    have l2 : ∀ x : Later (w.heap.size + 2) ((w.alloc (.cells #[.int .i64 a.k, .int .i64 a.n, .slice A a.args.length c] 25)).alloc (.cells #[.int .i64 b.k, .int .i64 b.n, .slice A' b.args.length c'] 25)), x.w.cell? ⟨w.heap.size, 2, none⟩ = some (.slice A a.args.length c) := fun x => x.cell p2 (by simp)
    have l3 : ∀ x : Later (w.heap.size + 2) ((w.alloc (.cells #[.int .i64 a.k, .int .i64 a.n, .slice A a.args.length c] 25)).alloc (.cells #[.int .i64 b.k, .int .i64 b.n, .slice A' b.args.length c'] 25)), x.w.cell? ⟨w.heap.size + 1, 0, none⟩ = some (.int .i64 b.k) := fun x => x.cell r0 (by simp)
    have l4 : ∀ x : Later (w.heap.size + 2) ((w.alloc (.cells #[.int .i64 a.k, .int .i64 a.n, .slice A a.args.length c] 25)).alloc (.cells #[.int .i64 b.k, .int .i64 b.n, .slice A' b.args.length c'] 25)), x.w.cell? ⟨w.heap.size + 1, 1, none⟩ = some (.int .i64 b.n) := fun x => x.cell r1 (by simp)
    have l5 : ∀ x : Later (w.heap.size + 2) ((w.alloc (.cells #[.int .i64 a.k, .int .i64 a.n, .slice A a.args.length c] 25)).alloc (.cells #[.int .i64 b.k, .int .i64 b.n, .slice A' b.args.length c'] 25)), x.w.cell? ⟨w.heap.size + 1, 2, none⟩ = some (.slice A' b.args.length c') := fun x => x.cell r2 (by simp)
    clear HH p0 p1 p2 r0 r1 r2
    obtain ⟨sa, hsa⟩ : ∃ sa : ByteArray, sa = ⟨(txt (ord a)).toArray⟩ := ⟨_, rfl⟩
    obtain ⟨sb, hsb⟩ : ∃ sb : ByteArray, sb = ⟨(txt (ord b)).toArray⟩ := ⟨_, rfl⟩
    rw [← hsa] at hna
    rw [← hsb] at hnb
    have heq : sameS a b = (may a && may b && (sa.toList == sb.toList)) := by unfold sameS; rw [hsa, hsb, bs_toList, bs_toList]; congr 1; exact Bool.eq_iff_iff.2 (by simp)
    rw [heq]
    clear hsa hsb heq
    obtain ⟨ma, hm⟩ : ∃ ma, may a = ma := ⟨_, rfl⟩
    rw [hm] at hma hna ⊢
    clear hm
    obtain ⟨mb, hm⟩ : ∃ mb, may b = mb := ⟨_, rfl⟩
    rw [hm] at hmb hnb ⊢
    clear hm
    cases ma <;> cases mb
    all_goals try replace hna := hna rfl
    all_goals try replace hnb := hnb rfl
    all_goals go_enter Tryd.func34, Tryd.ntmps34
    all_goals go_wp2_with fail
    all_goals refine wp_region_later (w.heap.size + 2) (by kernel_rfl) ?_
    all_goals repeat (first | go_big_quiet_step ((first | (go_at_call 30; with_reducible exact later_call (hma _) (by simp)) | (go_at_call 30; with_reducible exact later_call (hmb _) (by simp)) | (go_at_call 53; with_reducible exact later_call (hna _) (by simp)) | (go_at_call 53; with_reducible exact later_call (hnb _) (by simp)))) | quiet_step ((first | (go_at_call 30; with_reducible exact later_call (hma _) (by simp)) | (go_at_call 30; with_reducible exact later_call (hmb _) (by simp)) | (go_at_call 53; with_reducible exact later_call (hna _) (by simp)) | (go_at_call 53; with_reducible exact later_call (hnb _) (by simp)))))
    all_goals refine wpQuiet_nil (later_all ?_)
    all_goals intro wx hx
    all_goals go_wp2_with fail
    all_goals go_ret
    all_goals exact ⟨rfl, HBel.out _ hx⟩
end Go.Proofs.YtfhpnkmhppfeiaaDoor
