/- The reference: number, natural. -/
import Derived.Test.YtfhpnkmhppfeiaaDoorR4
set_option linter.unusedVariables false
set_option linter.unusedSimpArgs false
namespace Go.Proofs.YtfhpnkmhppfeiaaDoor
open Go.RowKit Go.Proofs
theorem byte_at {s : Bs} {j : Nat} {c : UInt8} (h : s[j]? = some c) : ∀ hh, (⟨s.toArray⟩ : ByteArray)[j]'hh = c := by
  intro hh
  obtain ⟨hl, e⟩ := List.getElem?_eq_some_iff.1 h
  rw [← e]; rfl
/-- Where a run of digits ends. -/
def runD (s : Bs) (at_ : Nat) : Nat := at_ + ((s.drop at_).takeWhile dig).length
theorem run_step {s : Bs} {j : Nat} {c : UInt8} (h : s[j]? = some c) : runD s j = if dig c = true then runD s (j + 1) else j := by
  have hl := (List.getElem?_eq_some_iff.1 h).1
  unfold runD
  rw [List.drop_eq_getElem_cons hl]
  have : s[j] = c := by rw [List.getElem?_eq_getElem hl] at h; exact Option.some.inj h
  rw [this]
  by_cases hd : dig c = true
  · rw [if_pos hd, List.takeWhile_cons_of_pos hd, List.length_cons]; omega
  · rw [if_neg hd, List.takeWhile_cons_of_neg hd]; rfl
theorem run_end {s : Bs} : runD s s.length = s.length := by unfold runD; simp
set_option maxRecDepth 100000 in
set_option maxHeartbeats 1000000 in
theorem number_any (s : Bs) (p : Nat) (w : World) (hs : s.length ≤ 100000) (hp : p ≤ s.length) :
    Calls Tryd.prog 73 #[.string ⟨s.toArray⟩, .int .i64 p] w fun e w' => e = .returned (.int .i64 (runD s p : Nat)) ∧ Below w.heap.size w w' := by
  have z := bs_size s
  go_enter Tryd.func73, Tryd.ntmps73
  go_wp2_with fail
  go_loopw [1] (fun i wr => ∃ (j : Nat), i = .int .i64 j ∧ j ≤ s.length ∧ Hid (runD s j = runD s p) ∧ wr = w) (fun i _ => s.length - (intOf i).toNat)
  case atStart => exact ⟨p, rfl, hp, rfl, rfl⟩
  case round =>
    obtain ⟨j, rfl, hj, HX, rfl⟩ := hrel
    by_cases hlt : j < s.length
    · obtain ⟨c, hc⟩ : ∃ c, s[j]? = some c := ⟨_, List.getElem?_eq_getElem hlt⟩
      have hb := byte_at hc
      have HC := Lib.hid hc
      clear hc
      by_cases h1 : c.toNat < 48
      · have e1 : ¬ ((c.toNat : Nat) : Int) ≥ 48 := by omega
        have hd : dig c = false := by simp only [dig, decide_eq_false_iff_not]; omega
        go_wp2_with fail
        go_ret
        exact ⟨ret_i (by rw [← HX.out, run_step HC.out, hd]; rfl), Below.refl _ _⟩
      · by_cases h2 : c.toNat > 57
        · have e1 : ((c.toNat : Nat) : Int) ≥ 48 := by omega
          have e2 : ¬ ((c.toNat : Nat) : Int) ≤ 57 := by omega
          have hd : dig c = false := by simp only [dig, decide_eq_false_iff_not]; omega
          go_wp2_with fail
          go_ret
          exact ⟨ret_i (by rw [← HX.out, run_step HC.out, hd]; rfl), Below.refl _ _⟩
        · have e1 : ((c.toNat : Nat) : Int) ≥ 48 := by omega
          have e2 : ((c.toNat : Nat) : Int) ≤ 57 := by omega
          have hd : dig c = true := by simp only [dig, decide_eq_true_eq]; omega
          go_wp2_with fail
          go_roundw
          case rel => exact ⟨j + 1, by go_num, by omega, by unfold Hid; rw [← HX.out, run_step HC.out, hd]; rfl, by first | rfl | trivial⟩
          case measure => simp [intOf]; omega
    · obtain rfl : j = s.length := by omega
      go_wp2_with fail
      go_ret
      exact ⟨ret_i (by rw [← HX.out, run_end]), Below.refl _ _⟩
end Go.Proofs.YtfhpnkmhppfeiaaDoor
