/- The reference: Can. -/
import Derived.Test.YtfhpnkmhppfeiaaDoorS4
set_option linter.unusedVariables false
set_option linter.unusedSimpArgs false
namespace Go.Proofs.YtfhpnkmhppfeiaaDoor
open Go.RowKit Go.Proofs
set_option maxRecDepth 100000 in
set_option maxHeartbeats 1000000 in
theorem rCan_any (g : Tm) (L : List Tm) (v vl : Value) (w : World) (hg : may g = true) (hL : mayL L = true) (hT : TR w Any g v) (hTL : TS w Any L vl) (hTab : Tab w) :
    Calls Tryd.prog 27 #[v, vl] w fun e w' => e = .returned (.bool (canS L g)) ∧ Below w.heap.size w w' := by
  obtain ⟨f1, f2⟩ := (may_iff g).1 hg
  obtain ⟨A, c, rfl⟩ := hT.form3
  obtain ⟨AL, cL, rfl, hl1, hl2⟩ := hTL.form
  have HB0 := Lib.hid (bself w (.cells #[.int .i64 g.k, .int .i64 g.n, .slice A g.args.length c] 25))
  have hor := Lib.hid (rOrder_any _ g _ _ (Nat.le_refl _) f1 f2 (hT.bel HB0.out) (hTab.bel HB0.out))
  have HLE : Hid (∀ w1, Below w.heap.size w w1 → Calls Tryd.prog 26 #[.slice AL L.length cL] w1 (LearnR w1 L)) := fun w1 hb => rLearn_any L _ w1 hL (hTL.bel hb) (hTab.bel hb)
  have HG := Lib.hid (show form (ord g) = true by rw [form_ord]; exact f1)
  have HCA := Lib.hid (fun ts (h : Learnt L ts) => h.can hg hL)
  clear hT hTL hTab f1 f2 hg hL
  go_enter Tryd.func27, Tryd.ntmps27
  go_wp2_with (first
    | (go_at_call 18; refine hor.out.mono ?_; clear hor; rintro e w2 ⟨vo, rfl, hTo, hb⟩; have HTO := Lib.hid hTo.any; have HB2 := Lib.hid (bthen HB0.out hb); clear hb hTo)
    | (go_at_call 26; refine (HLE.out _ HB2.out).mono ?_; rintro e w3 ⟨v3, ts, rfl, hT3, hL3, _, hb⟩; have HB3 := Lib.hid (bthen HB2.out hb); have HTO3 := Lib.hid (HTO.out.bel hb); have HT3 := Lib.hid hT3; have HL3 := Lib.hid hL3; clear hb hT3 hL3)
    | (go_at_call 46; refine (made_any ts (fun t ht => (HL3.out.good t ht).1) _ (ord g) _ _ w3 (Nat.le_refl _) HG.out HTO3.out HT3.out).mono ?_; rintro e w4 ⟨rfl, hb⟩; have HB4 := Lib.hid (bthen HB3.out hb); clear hb))
  go_ret
  exact ⟨ret_b (HCA.out ts HL3.out), HB4.out⟩
end Go.Proofs.YtfhpnkmhppfeiaaDoor
