/- The reference: natural. -/
import Derived.Test.YtfhpnkmhppfeiaaDoorR5
set_option linter.unusedVariables false
set_option linter.unusedSimpArgs false
namespace Go.Proofs.YtfhpnkmhppfeiaaDoor
open Go.RowKit Go.Proofs
/-- The value of a run of digits. -/
def valD (l : Bs) : Nat := l.foldl (fun a c => a * 10 + (c.toNat - 48)) 0
theorem valD_snoc (l : Bs) (c : UInt8) : valD (l ++ [c]) = valD l * 10 + (c.toNat - 48) := by simp [valD]
theorem valD_take {s : Bs} {j : Nat} {c : UInt8} (h : s[j]? = some c) : valD (s.take (j + 1)) = valD (s.take j) * 10 + (c.toNat - 48) := by
  rw [List.take_add_one, h, Option.toList_some, valD_snoc]
theorem valD_le (s : Bs) (j : Nat) : valD (s.take j) ≤ valD s := by
  have : ∀ (l r : Bs), valD l ≤ valD (l ++ r) := by
    intro l r
    induction r generalizing l with
    | nil => simp
    | cons c r ih =>
      have h1 := ih (l ++ [c])
      rw [valD_snoc] at h1
      rw [show l ++ c :: r = l ++ [c] ++ r by simp]
      omega
  have h := this (s.take j) (s.drop j)
  rwa [List.take_append_drop] at h
theorem digit_val : ∀ d : Nat, d < 10 → (UInt8.ofNat (48 + d)).toNat - 48 = d := by decide
theorem valD_dec (u : Nat) : valD (Lib.decDigits u) = u := by
  induction u using Nat.strongRecOn with
  | _ u ih =>
    by_cases h : u < 10
    · rw [Lib.decDigits, dif_pos h]; simp only [valD, List.foldl_cons, List.foldl_nil, Nat.zero_mul, Nat.zero_add]; exact digit_val u h
    · rw [Lib.decDigits, dif_neg h, valD_snoc, ih _ (by omega), digit_val _ (by omega)]; omega
theorem digit_ne : ∀ d : Nat, d < 10 → 1 ≤ d → UInt8.ofNat (48 + d) ≠ 48 := by decide
theorem dec_head (u : Nat) (h : 1 ≤ u) : (Lib.decDigits u).head? ≠ some 48 := by
  induction u using Nat.strongRecOn with
  | _ u ih =>
    by_cases h' : u < 10
    · rw [Lib.decDigits, dif_pos h']; intro e; simp only [List.head?_cons, Option.some.injEq] at e; exact digit_ne u h' h e
    · rw [Lib.decDigits, dif_neg h', List.head?_append]
      have := ih (u / 10) (by omega) (by omega)
      obtain ⟨c, r, e⟩ := List.exists_cons_of_ne_nil (dec_ne (u / 10))
      rw [e] at this ⊢
      simpa using this
theorem dec_lead {u : Nat} {s : Bs} (e : s = Lib.decDigits u) : s ≠ [] ∧ ¬ (1 < s.length ∧ s[0]? = some 48) := by
  subst e
  refine ⟨dec_ne u, fun ⟨h1, h2⟩ => ?_⟩
  rw [← List.head?_eq_getElem?] at h2
  by_cases h : 1 ≤ u
  · exact dec_head u h h2
  · obtain rfl : u = 0 := by omega
    rw [Lib.decDigits_one (by omega)] at h1
    simp at h1
/-- What natural answers. -/
def NatR (s : Bs) (w : World) (e : Ending) (w' : World) : Prop := ∃ (x : Nat) (b : Bool), e = .returned (.tuple #[.int .u64 x, .bool b]) ∧ x ≤ 9223372036854775807 ∧ (∀ n, s = Lib.decDigits n → n ≤ 9223372036854775807 → x = n ∧ b = true) ∧ Below w.heap.size w w'
set_option maxRecDepth 100000 in
set_option maxHeartbeats 1000000 in
theorem natural_any (s : Bs) (w : World) (hs : s.length ≤ 100000) :
    Calls Tryd.prog 74 #[.string ⟨s.toArray⟩, .int .u64 9223372036854775807] w (NatR s w) := by
  have z := bs_size s
  by_cases h0 : s = []
  · subst h0
    go_enter Tryd.func74, Tryd.ntmps74
    go_wp2_with fail
    go_ret2
    exact ⟨0, false, rfl, by omega, fun n e => ((dec_lead e).1 rfl).elim, Below.refl _ _⟩
  obtain ⟨c0, hc0⟩ : ∃ c, s[0]? = some c := by
    cases s with
    | nil => exact absurd rfl h0
    | cons c r => exact ⟨c, rfl⟩
  have hb0 := byte_at hc0
  have hem : s.isEmpty = false := by cases s with
    | nil => exact absurd rfl h0
    | cons c r => rfl
  have hlen : 0 < s.length := List.length_pos_iff.2 h0
  have HC0 := Lib.hid hc0
  clear hc0 h0
  by_cases hl : 1 < s.length ∧ c0 = 48
  · obtain ⟨hl, rfl⟩ := hl
    have e1 : ((s.length : Nat) : Int) > 1 := by omega
    go_enter Tryd.func74, Tryd.ntmps74
    go_wp2_with fail
    go_ret2
    exact ⟨0, false, rfl, by omega, fun n e => ((dec_lead e).2 ⟨hl, HC0.out⟩).elim, Below.refl _ _⟩
  by_cases hl1 : 1 < s.length
  · have e1 : ((s.length : Nat) : Int) > 1 := by omega
    have e2 : (((c0.toNat : Nat) : Int) == 48) = false := by
      rw [beq_eq_false_iff_ne]; intro e; exact hl ⟨hl1, UInt8.toNat_inj.1 (by have : c0.toNat = 48 := by omega
                                                                              rw [this]; rfl)⟩
    go_enter Tryd.func74, Tryd.ntmps74
    go_wp2_with fail
    clear hb0 e2
    go_loopw [6, 7] (fun x i wr => ∃ (j m : Nat), i = .int .i64 j ∧ x = .int .u64 m ∧ j ≤ s.length ∧ m ≤ 9223372036854775807 ∧ Hid (m = valD (s.take j)) ∧ wr = w) (fun _ i _ => s.length - (intOf i).toNat)
    case atStart => exact ⟨0, 0, rfl, rfl, Nat.zero_le _, by omega, rfl, rfl⟩
    case round =>
      obtain ⟨j, m, rfl, rfl, hj, hm, HX, rfl⟩ := hrel
      by_cases hlt : j < s.length
      · obtain ⟨c, hc⟩ : ∃ c, s[j]? = some c := ⟨_, List.getElem?_eq_getElem hlt⟩
        have hb := byte_at hc
        have HC := Lib.hid hc
        have hcu := c.toNat_lt
        clear hc
        have nd : Hid (dig c = false → ∀ n, s = Lib.decDigits n → n ≤ 9223372036854775807 → (0 : Nat) = n ∧ false = true) := fun hd n e _ => by
          have := dec_dig n c (e ▸ List.mem_of_getElem? HC.out)
          rw [hd] at this; cases this
        by_cases h1 : c.toNat < 48
        · have e3 : ((c.toNat : Nat) : Int) < 48 := by omega
          have hd : dig c = false := by simp only [dig, decide_eq_false_iff_not]; omega
          have HD := Lib.hid hd
          clear hd
          go_wp2_with fail
          go_ret2
          exact ⟨0, false, rfl, by omega, nd.out HD.out, Below.refl _ _⟩
        · by_cases h2 : c.toNat > 57
          · have e3 : ¬ ((c.toNat : Nat) : Int) < 48 := by omega
            have e4 : ((c.toNat : Nat) : Int) > 57 := by omega
            have hd : dig c = false := by simp only [dig, decide_eq_false_iff_not]; omega
            have HD := Lib.hid hd
            clear hd
            go_wp2_with fail
            go_ret2
            exact ⟨0, false, rfl, by omega, nd.out HD.out, Below.refl _ _⟩
          · have e3 : ¬ ((c.toNat : Nat) : Int) < 48 := by omega
            have e4 : ¬ ((c.toNat : Nat) : Int) > 57 := by omega
            obtain ⟨d, hd⟩ : ∃ d : Nat, c.toNat = 48 + d := ⟨c.toNat - 48, by omega⟩
            have hd9 : d ≤ 9 := by omega
            have HD := Lib.hid hd
            rw [hd] at e3 e4 h1 h2 hcu
            have hb2 : ∀ hh, ((⟨s.toArray⟩ : ByteArray)[j]'hh).toNat = 48 + d := fun hh => by rw [hb]; exact HD.out
            clear hb hd
            have hvt := valD_take HC.out
            have HVT : Hid (valD (s.take (j + 1)) = m * 10 + d) := by unfold Hid; rw [hvt, ← HX.out, HD.out]; omega
            clear hvt
            go_wp2_with fail
            · rename_i hov _ _
              go_ret2
              refine ⟨0, false, rfl, by omega, fun n e hn => ?_, Below.refl _ _⟩
              have h3 := valD_le s (j + 1)
              rw [HVT.out, e, valD_dec] at h3
              omega
            · rename_i hov
              have e5 : (10 * (m : Int) + (48 + (d : Int) - 48)) = ((m * 10 + d : Nat) : Int) := by omega
              rw [e5]
              go_roundw
              case rel => exact ⟨j + 1, m * 10 + d, by go_num, rfl, by omega, by omega, HVT.out.symm, by first | rfl | trivial⟩
              case measure => simp [intOf]; omega
      · obtain rfl : j = s.length := by omega
        go_wp2_with fail
        go_ret2
        exact ⟨m, true, rfl, hm, fun n e _ => ⟨by rw [HX.out, List.take_length, e, valD_dec], rfl⟩, Below.refl _ _⟩
  · have e1 : ¬ ((s.length : Nat) : Int) > 1 := by omega
    go_enter Tryd.func74, Tryd.ntmps74
    go_wp2_with fail
    clear hb0
    go_loopw [6, 7] (fun x i wr => ∃ (j m : Nat), i = .int .i64 j ∧ x = .int .u64 m ∧ j ≤ s.length ∧ m ≤ 9223372036854775807 ∧ Hid (m = valD (s.take j)) ∧ wr = w) (fun _ i _ => s.length - (intOf i).toNat)
    case atStart => exact ⟨0, 0, rfl, rfl, Nat.zero_le _, by omega, rfl, rfl⟩
    case round =>
      obtain ⟨j, m, rfl, rfl, hj, hm, HX, rfl⟩ := hrel
      by_cases hlt : j < s.length
      · obtain ⟨c, hc⟩ : ∃ c, s[j]? = some c := ⟨_, List.getElem?_eq_getElem hlt⟩
        have hb := byte_at hc
        have HC := Lib.hid hc
        have hcu := c.toNat_lt
        clear hc
        have nd : Hid (dig c = false → ∀ n, s = Lib.decDigits n → n ≤ 9223372036854775807 → (0 : Nat) = n ∧ false = true) := fun hd n e _ => by
          have := dec_dig n c (e ▸ List.mem_of_getElem? HC.out)
          rw [hd] at this; cases this
        by_cases h1 : c.toNat < 48
        · have e3 : ((c.toNat : Nat) : Int) < 48 := by omega
          have hd : dig c = false := by simp only [dig, decide_eq_false_iff_not]; omega
          have HD := Lib.hid hd
          clear hd
          go_wp2_with fail
          go_ret2
          exact ⟨0, false, rfl, by omega, nd.out HD.out, Below.refl _ _⟩
        · by_cases h2 : c.toNat > 57
          · have e3 : ¬ ((c.toNat : Nat) : Int) < 48 := by omega
            have e4 : ((c.toNat : Nat) : Int) > 57 := by omega
            have hd : dig c = false := by simp only [dig, decide_eq_false_iff_not]; omega
            have HD := Lib.hid hd
            clear hd
            go_wp2_with fail
            go_ret2
            exact ⟨0, false, rfl, by omega, nd.out HD.out, Below.refl _ _⟩
          · have e3 : ¬ ((c.toNat : Nat) : Int) < 48 := by omega
            have e4 : ¬ ((c.toNat : Nat) : Int) > 57 := by omega
            obtain ⟨d, hd⟩ : ∃ d : Nat, c.toNat = 48 + d := ⟨c.toNat - 48, by omega⟩
            have hd9 : d ≤ 9 := by omega
            have HD := Lib.hid hd
            rw [hd] at e3 e4 h1 h2 hcu
            have hb2 : ∀ hh, ((⟨s.toArray⟩ : ByteArray)[j]'hh).toNat = 48 + d := fun hh => by rw [hb]; exact HD.out
            clear hb hd
            have hvt := valD_take HC.out
            have HVT : Hid (valD (s.take (j + 1)) = m * 10 + d) := by unfold Hid; rw [hvt, ← HX.out, HD.out]; omega
            clear hvt
            go_wp2_with fail
            · rename_i hov _ _
              go_ret2
              refine ⟨0, false, rfl, by omega, fun n e hn => ?_, Below.refl _ _⟩
              have h3 := valD_le s (j + 1)
              rw [HVT.out, e, valD_dec] at h3
              omega
            · rename_i hov
              have e5 : (10 * (m : Int) + (48 + (d : Int) - 48)) = ((m * 10 + d : Nat) : Int) := by omega
              rw [e5]
              go_roundw
              case rel => exact ⟨j + 1, m * 10 + d, by go_num, rfl, by omega, by omega, HVT.out.symm, by first | rfl | trivial⟩
              case measure => simp [intOf]; omega
      · obtain rfl : j = s.length := by omega
        go_wp2_with fail
        go_ret2
        exact ⟨m, true, rfl, hm, fun n e _ => ⟨by rw [HX.out, List.take_length, e, valD_dec], rfl⟩, Below.refl _ _⟩
end Go.Proofs.YtfhpnkmhppfeiaaDoor
