/- The reference: Size. -/
import Derived.Test.YtfhpnkmhppfeiaaDoorA7
set_option linter.unusedVariables false
set_option linter.unusedSimpArgs false
namespace Go.Proofs.YtfhpnkmhppfeiaaDoor
open Go.RowKit Go.Proofs
/-- How many terms there are in one, up to a bound. -/
def sizeM (t : Tm) (most : Nat) : Nat := min (size t) (most + 1)
theorem sizeL_take {args : List Tm} {j : Nat} {a : Tm} (h : args[j]? = some a) : sizeL (args.take (j + 1)) = sizeL (args.take j) + size a := by
  rw [List.take_add_one, h]; simp [sizeL_append, sizeL]
theorem sizeL_take_le (args : List Tm) (j : Nat) : sizeL (args.take j) ≤ sizeL args := by
  have := sizeL_append (args.take j) (args.drop j)
  rw [List.take_append_drop] at this
  omega
set_option maxRecDepth 100000 in
set_option maxHeartbeats 1000000 in
theorem Size_any : ∀ (N : Nat) (t : Tm) (v : Value) (most : Nat) (w : World), size t ≤ N → most ≤ 1000000 → TR w Any t v →
    Calls Tryd.prog 14 #[v, .int .i64 most] w fun e w' => e = .returned (.int .i64 (sizeM t most : Nat)) ∧ Below w.heap.size w w' := by
  intro N
  induction N with
  | zero => intro t v most w h; have := size_pos t; omega
  | succ N ih =>
    rintro ⟨k, n, args⟩ v most w hN hm hT
    obtain ⟨s, rfl, hk, hn, hS⟩ := hT.inv
    obtain ⟨A, c, rfl, hc1, hc2⟩ := hS.form
    have HS := Lib.hid hS
    have HN := Lib.hid hN
    clear hS hN hT
    go_enter Tryd.func14, Tryd.ntmps14
    go_wp2_with fail
    obtain ⟨W0, hW0⟩ : ∃ W0, W0 = w.alloc (.cells #[.int .i64 k, .int .i64 n, .slice A args.length c] 25) := ⟨_, rfl⟩
    rw [← hW0]
    have HB0 : Hid (Below w.heap.size w W0) := by rw [hW0]; exact bself _ _
    have HA0 : Hid (W0.heap[w.heap.size]? = some (.cells #[.int .i64 k, .int .i64 n, .slice A args.length c] 25 (0, 0))) := by rw [hW0]; exact heap_alloc_new _ _
    clear hW0
    go_loopw [5, 6] (fun x i wr => ∃ (j m : Nat), i = .int .i64 j ∧ x = .int .i64 m ∧ j ≤ args.length ∧ m ≤ 1000001 ∧ Hid (m = min (1 + sizeL (args.take j)) (most + 1)) ∧ Hid (Below W0.heap.size W0 wr)) (fun _ i _ => args.length - (intOf i).toNat)
    case atStart => exact ⟨0, 1, rfl, rfl, Nat.zero_le _, by omega, by unfold Hid; simp [sizeL], Below.refl _ _⟩
    case round =>
      obtain ⟨j, m, rfl, rfl, hj, hm1, HX, HB⟩ := hrel
      obtain ⟨q0, q1, q2, _, _, _⟩ := cell3_load ((HB.out.block _ (Array.getElem?_eq_some_iff.1 HA0.out).1).trans HA0.out)
      by_cases hlt : j < args.length ∧ m ≤ most
      · obtain ⟨hlt, hle⟩ := hlt
        obtain ⟨a, ha⟩ : ∃ a, args[j]? = some a := ⟨_, List.getElem?_eq_getElem hlt⟩
        obtain ⟨b, o, A2, cc, rfl, _, hbs, c0, c1, c2, hTa⟩ := HS.out.at_ ha
        have HBW : Hid (Below w.heap.size w wr) := bthen HB0.out HB.out
        have d0 := (HBW.out.cell (p := ⟨b, o + j * 3, none⟩) hbs).trans c0
        have d1 := (HBW.out.cell (p := ⟨b, o + j * 3 + 1, none⟩) hbs).trans c1
        have d2 := (HBW.out.cell (p := ⟨b, o + j * 3 + 2, none⟩) hbs).trans c2
        have HAA := Lib.hid ha
        have hic := ih a _ (most - m) wr (by have := size_at (k := k) (n := n) HAA.out; have := HN.out; omega) (by omega) (hTa.bel HBW.out)
        have ec : (((most - m : Nat) : Int)) = (most : Int) - (m : Int) := by omega
        rw [ec] at hic
        have hsm : sizeM a (most - m) ≤ most - m + 1 := Nat.min_le_right _ _
        have HE : Hid (m + sizeM a (most - m) = min (1 + sizeL (args.take (j + 1))) (most + 1)) := by
          unfold Hid
          rw [sizeL_take HAA.out]
          have := HX.out
          unfold sizeM
          omega
        clear ha c0 c1 c2 hTa ec
        go_wp2_with (go_at_call 14; refine hic.mono ?_; rintro e w1 ⟨rfl, hb1⟩)
        have HB1 := Lib.hid hb1
        clear hb1
        go_roundw
        case rel => exact ⟨j + 1, m + sizeM a (most - m), by go_num, by go_num, by omega, by omega, HE.out, bthen HB.out HB1.out⟩
        case measure => simp [intOf]; omega
      · have HF : Hid (sizeM (.mk k n args) most = m) := by
          unfold Hid sizeM
          simp only [size]
          have h1 := HX.out
          have h2 := sizeL_take_le args j
          rcases Nat.lt_or_ge j args.length with h | h
          · have : ¬ m ≤ most := fun e => hlt ⟨h, e⟩
            omega
          · rw [List.take_of_length_le h] at h1
            omega
        rcases Nat.lt_or_ge j args.length with h | h
        · have h3 : ¬ m ≤ most := fun e => hlt ⟨h, e⟩
          clear hlt
          go_wp2_with fail
          go_ret
          exact ⟨by rw [HF.out]; rfl, bthen HB0.out HB.out⟩
        · obtain rfl : j = args.length := by omega
          clear hlt
          go_wp2_with fail
          go_ret
          exact ⟨by rw [HF.out]; rfl, bthen HB0.out HB.out⟩
end Go.Proofs.YtfhpnkmhppfeiaaDoor
