/- The chapter's rows: closed terms, what can be come to know of them. -/
import Derived.Test.YtfhpnkmhppfeiaaDoorPlain3
set_option linter.unusedVariables false
namespace Go.Proofs.YtfhpnkmhppfeiaaDoor
/-- A secret, a datum. -/
def sT (n : Int) : Tm := .mk 2 n []
def d0T : Tm := .mk 1 0 []
theorem canS_no_ {L : List Tm} {g : Tm} (h : ¬ CanP L g) : canS L g = false := by cases e : canS L g with | false => rfl | true => exact absurd (canS_iff.1 e) h
def KA : List Tm := [.mk 4 0 [sT 1, sT 2], sT 1]
def KB : List Tm := [.mk 3 0 [sT 1], sT 2]
theorem ordA1 : ord (.mk 4 0 [sT 1, sT 2]) = .mk 4 0 [sT 1, sT 2] := by simp [sT, ord, ordL, turn]
theorem ordB1 : ord (.mk 3 0 [sT 1]) = .mk 3 0 [sT 1] := by simp [sT, ord, ordL, turn]
theorem ordS (n : Int) : ord (sT n) = sT n := ord_sec n
theorem mayA : mayL KA = true := by decide
theorem mayB : mayL KB = true := by decide
theorem knowA1 : Know KA (sT 1) := by have := (Know.closed KA).base (sT 1) (by simp [KA]); rwa [ordS] at this
theorem knowA2 : Know KA (sT 2) := by
  have := (Know.closed KA).base (.mk 4 0 [sT 1, sT 2]) (by simp [KA])
  rw [ordA1] at this
  exact (Know.closed KA).seald _ _ this (.known knowA1)
theorem knowB1 : Know KB (.mk 3 0 [sT 1]) := by have := (Know.closed KB).base (.mk 3 0 [sT 1]) (by simp [KB]); rwa [ordB1] at this
theorem knowB2 : Know KB (sT 2) := by have := (Know.closed KB).base (sT 2) (by simp [KB]); rwa [ordS] at this
theorem row1 : canS KA (sT 2) = true := canS_iff.2 ⟨by decide, mayA, by rw [ordS]; exact .known knowA2⟩
theorem ordD : ord d0T = .mk 1 0 [] := by simp [d0T, ord, ordL, turn]
theorem row2 : canS KA (.mk 6 0 [sT 2, d0T]) = true := canS_iff.2 ⟨by decide, mayA, by
  rw [ord_two (by omega), ordS, ordD]
  exact .two (by omega) (by omega) (.known knowA2) .data⟩
theorem row3 : canS KA (sT 3) = false := canS_no_ (by
  rintro ⟨_, _, h⟩
  rw [ordS] at h
  have := h.sec (fun t => t = .mk 4 0 [sT 1, sT 2] ∨ t = sT 1 ∨ t = sT 2) ⟨fun t ht => by
    simp only [KA, List.mem_cons, List.not_mem_nil, or_false] at ht
    rcases ht with rfl | rfl
    · exact .inl ordA1
    · exact .inr (.inl (ordS 1)), fun a b h => by simp [sT] at h, fun a b h => by simp [sT] at h, fun a b h _ => by
      simp only [sT, Tm.mk.injEq, List.cons.injEq] at h
      rcases h with h | h | h
      · exact .inr (.inr h.2.2.2.1)
      · simp at h
      · simp at h⟩
  simp [sT] at this)
theorem row45 : canS KB (.mk 8 0 [sT 1, sT 2]) = true := canS_iff.2 ⟨by decide, mayB, by
  rw [ord_sh, ordS, ordS]
  split
  · exact .sh1 (.known knowB2) knowB1
  · exact .sh2 (.known knowB2) knowB1⟩
theorem row5 : canS KB (.mk 8 0 [sT 2, sT 1]) = true := by rw [canS_comm]; exact row45
theorem row6 : canS KB (sT 1) = false := canS_no_ (by
  rintro ⟨_, _, h⟩
  rw [ordS] at h
  have := h.sec (fun t => t = .mk 3 0 [sT 1] ∨ t = sT 2) ⟨fun t ht => by
    simp only [KB, List.mem_cons, List.not_mem_nil, or_false] at ht
    rcases ht with rfl | rfl
    · exact .inl ordB1
    · exact .inr (ordS 2), fun a b h => by simp [sT] at h, fun a b h => by simp [sT] at h, fun a b h _ => by simp [sT] at h⟩
  simp [sT] at this)
end Go.Proofs.YtfhpnkmhppfeiaaDoor
