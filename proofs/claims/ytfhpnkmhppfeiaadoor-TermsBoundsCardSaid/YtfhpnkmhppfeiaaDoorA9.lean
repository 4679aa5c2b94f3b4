/- slices.Index and slices.Contains of truths; what the closure public asks. -/
import Derived.Test.YtfhpnkmhppfeiaaDoorA8
set_option linter.unusedVariables false
set_option linter.unusedSimpArgs false
namespace Go.Proofs.YtfhpnkmhppfeiaaDoor
open Go.RowKit Go.Proofs
def bls (l : List Bool) : List Value := l.map .bool
/-- The cells of a row of one's own. -/
theorem own_cells1 {w : World} {base : Nat} {e : TypeId} {v : Value} {n : Nat} {xs : List Value} (h : w.ownsRow base e 1 v n xs) :
    (v = .slice none 0 0 ∧ n = 0) ∨ ∃ g c, v = .slice (some ⟨g, 0, none⟩) n c ∧ g < w.heap.size ∧ base ≤ g ∧ n ≤ c ∧ c ≤ 9223372036854775807 ∧ ∀ j x, xs[j]? = some x → w.cell? ⟨g, j, none⟩ = some x := by
  rcases h.2 with ⟨rfl, hn⟩ | ⟨g, cap, cur, rfl, hb, hh, hc1, hc2, hcur, htake⟩
  · exact .inl ⟨rfl, hn⟩
  · refine .inr ⟨g, cap, rfl, (Array.getElem?_eq_some_iff.1 hh).1, hb, hc1, hc2, fun j x hx => ?_⟩
    have := h.cells (g := g) rfl j x hx
    rwa [addr_add] at this
theorem own_len1 {w : World} {base : Nat} {e : TypeId} {v : Value} {n : Nat} {xs : List Value} (h : w.ownsRow base e 1 v n xs) : xs.length = n := by have := h.1; omega
set_option maxRecDepth 100000 in
set_option maxHeartbeats 1000000 in
theorem indexB_any {base : Nat} {v : Value} (l : List Bool) (w : World) (h : w.ownsRow base 4 1 v l.length (bls l)) :
    Calls Tryd.prog 81 #[v, .bool false] w fun e w' => ∃ r : Int, e = .returned (.int .i64 r) ∧ decide (0 ≤ r) = l.contains false ∧ Below w.heap.size w w' := by
  rcases own_cells1 h with ⟨rfl, hn⟩ | ⟨g, c, rfl, hg, _, hc1, hc2, hcell⟩
  · obtain rfl : l = [] := List.length_eq_zero_iff.1 hn
    clear h
    go_enter Tryd.func81, Tryd.ntmps81
    go_wp2_with fail
    refine wp_loop_rounds 1 ?_; rw [rounds_succ]
    go_wp2_with fail
    go_ret
    exact ⟨-1, rfl, rfl, Below.refl _ _⟩
  · have HC := Lib.hid hcell
    clear h hcell
    go_enter Tryd.func81, Tryd.ntmps81
    go_wp2_with fail
    go_loopw [8] (fun i wr => ∃ (j : Nat), i = .int .i64 j ∧ j ≤ l.length ∧ Hid (∀ i, i < j → l[i]? = some true) ∧ wr = w) (fun i _ => l.length - (intOf i).toNat)
    case atStart => exact ⟨0, rfl, Nat.zero_le _, fun i hi => by omega, rfl⟩
    case round =>
      obtain ⟨j, rfl, hj, HX, rfl⟩ := hrel
      by_cases hlt : j < l.length
      · obtain ⟨x, hx⟩ : ∃ x, l[j]? = some x := ⟨_, List.getElem?_eq_getElem hlt⟩
        have d0 := HC.out j (.bool x) (by simp [bls, hx])
        have HJ := Lib.hid hx
        clear hx
        cases x with
        | false =>
          go_wp2_with fail
          go_ret
          exact ⟨(j : Int), rfl, by rw [decide_eq_true (by omega)]; symm; rw [List.contains_iff_mem]; exact List.mem_of_getElem? HJ.out, Below.refl _ _⟩
        | true =>
          go_wp2_with fail
          go_roundw
          case rel => exact ⟨j + 1, by go_num, by omega, fun i hi => by rcases Nat.lt_or_ge i j with h | h; exact HX.out i h; obtain rfl : i = j := by omega
                                                                        exact HJ.out, by first | rfl | trivial⟩
          case measure => simp [intOf]; omega
      · obtain rfl : j = l.length := by omega
        go_wp2
        go_ret
        refine ⟨-1, rfl, ?_, Below.refl _ _⟩
        symm
        rw [show decide ((0 : Int) ≤ -1) = false from rfl, Bool.eq_false_iff]
        intro hm
        rw [List.contains_iff_mem] at hm
        obtain ⟨i, hi⟩ := List.getElem?_of_mem hm
        have := HX.out i (List.getElem?_eq_some_iff.1 hi).1
        rw [hi] at this; cases this
set_option maxRecDepth 100000 in
set_option maxHeartbeats 1000000 in
theorem containsB_any {base : Nat} {v : Value} (l : List Bool) (w : World) (h : w.ownsRow base 4 1 v l.length (bls l)) :
    Calls Tryd.prog 63 #[v, .bool false] w fun e w' => e = .returned (.bool (l.contains false)) ∧ Below w.heap.size w w' := by
  have hi := indexB_any l w h
  obtain ⟨cb, hcb⟩ : ∃ cb, cb = l.contains false := ⟨_, rfl⟩
  rw [← hcb] at hi ⊢
  clear hcb
  have hf : ∃ A n c, v = .slice A n c := by rcases own_cells1 h with ⟨rfl, _⟩ | ⟨g, c, rfl, _⟩ <;> exact ⟨_, _, _, rfl⟩
  obtain ⟨A, n, c, rfl⟩ := hf
  clear h
  go_enter Tryd.func63, Tryd.ntmps63
  go_wp2_with (go_at_call 81; refine hi.mono ?_; rintro e w2 ⟨r, rfl, hr, hb⟩)
  go_ret
  exact ⟨ret_b (by rw [← hr]), hb⟩
theorem field25 (x y z : Value) (w : World) : (Instr.field 25 (.agg #[x, y, z]) 0).run Tryd.prog w = .ok x w := by
  simp [Instr.field, go_sem, asAgg, part]
set_option maxRecDepth 100000 in
set_option maxHeartbeats 1000000 in
/-- public(i): is the public one of an Arg known? -/
theorem public_any {D : Nat → Prop} {base bl bk bm : Nat} {v : Value} (ts : List Tm) (l : List Bs) (j : Nat) (s : Bs) (w : World) (hk : KM w D bm ts) (ck : w.cell? ⟨bk, 0, none⟩ = some (.map (some bm)))
    (cl : w.cell? ⟨bl, 0, none⟩ = some v) (h : w.ownsRow base 9 1 v l.length (strs l)) (hj : l[j]? = some s) (hs : s.length ≤ 62000) :
    Calls Tryd.prog 62 #[.int .i64 j, .pointer (some ⟨bk, 0, none⟩), .pointer (some ⟨bl, 0, none⟩)] w fun e w' => e = .returned (.bool (hasT ts ([112, 117, 98, 108, 105, 99, 40] ++ s ++ [41]))) ∧ Below w.heap.size w w' := by
  have hlt := (List.getElem?_eq_some_iff.1 hj).1
  rcases own_cells1 h with ⟨rfl, hn⟩ | ⟨g, c, rfl, hg, _, hc1, hc2, hcell⟩
  · omega
  have d0 := hcell j (.string ⟨s.toArray⟩) (by simp [strs, hj])
  obtain ⟨p, hp⟩ : ∃ p, p = [112, 117, 98, 108, 105, 99, 40] ++ s ++ [41] := ⟨_, rfl⟩
  rw [← hp]
  obtain ⟨x, hx, _, hxx⟩ := look_K hk p
  obtain ⟨k, n, A, ll, cc, rfl, hkind⟩ := look_kind hk.1 hxx
  have hkk : (k != 0) = hasT ts p := by rw [bne, hkind]; simp
  have ap : (⟨#[112, 117, 98, 108, 105, 99, 40]⟩ : ByteArray) ++ ⟨s.toArray⟩ = ⟨(112 :: 117 :: 98 :: 108 :: 105 :: 99 :: 40 :: s).toArray⟩ := bs_append [112, 117, 98, 108, 105, 99, 40] s
  have ap2 : (⟨(112 :: 117 :: 98 :: 108 :: 105 :: 99 :: 40 :: s).toArray⟩ : ByteArray) ++ ⟨#[41]⟩ = ⟨p.toArray⟩ := by rw [hp]; exact bs_append ([112, 117, 98, 108, 105, 99, 40] ++ s) [41]
  have z1 := bs_size s
  have z2 : ((⟨(112 :: 117 :: 98 :: 108 :: 105 :: 99 :: 40 :: s).toArray⟩ : ByteArray)).size = s.length + 7 := by rw [bs_size]; simp
  have hxl : ∀ y : Later w.heap.size w, (Instr.lookup 56 (.map (some bm)) (.string ⟨p.toArray⟩) false).run Tryd.prog y.w = .ok (.agg #[.int .i64 k, .int .i64 n, .slice A ll cc]) y.w := fun y => hx _ (y.2.block _ hk.lt)
  have lf : ∀ (y : Later w.heap.size w), (Instr.field 25 (.agg #[.int .i64 k, .int .i64 n, .slice A ll cc]) 0).run Tryd.prog y.w = .ok (.int .i64 k) y.w := fun y => field25 _ _ _ _
  have l0 : ∀ y : Later w.heap.size w, y.w.cell? ⟨bk, 0, none⟩ = some (.map (some bm)) := fun y => y.cell ck (World.block_lt_of_cell? w _ ck)
  have l1 : ∀ y : Later w.heap.size w, y.w.cell? ⟨bl, 0, none⟩ = some (.slice (some ⟨g, 0, none⟩) l.length c) := fun y => y.cell cl (World.block_lt_of_cell? w _ cl)
  have l2 : ∀ y : Later w.heap.size w, y.w.cell? ⟨g, j, none⟩ = some (.string ⟨s.toArray⟩) := fun y => y.cell d0 hg
  obtain ⟨hb, hhb⟩ : ∃ hb, hb = hasT ts p := ⟨_, rfl⟩
  rw [← hhb] at hkk ⊢
  clear hcell h hj hxx hkind ck cl d0 hp hx hhb hk
  go_enter Tryd.func62, Tryd.ntmps62
  go_wp2_with fail
  refine wp_region_later w.heap.size (by kernel_rfl) ?_
  repeat (first | go_big_quiet_step (fail) | quiet_step (fail))
  refine wpQuiet_nil (later_all ?_)
  intro wx hx
  go_wp2
  go_ret
  exact ⟨rfl, hx⟩
end Go.Proofs.YtfhpnkmhppfeiaaDoor
