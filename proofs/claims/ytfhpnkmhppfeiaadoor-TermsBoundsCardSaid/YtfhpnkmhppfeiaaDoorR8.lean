/- The reference: read. -/
import Derived.Test.YtfhpnkmhppfeiaaDoorG6
import Derived.Test.YtfhpnkmhppfeiaaDoorR7
import Derived.Test.YtfhpnkmhppfeiaaDoorA8
import Derived.Deep.CutBlock
set_option linter.unusedVariables false
set_option linter.unusedSimpArgs false
namespace Go.Proofs.YtfhpnkmhppfeiaaDoor
open Go.RowKit Go.Proofs
/-- What read answers: its end or -1, what is left in the counter. -/
def ReadR (w : World) (s : Bs) (p : Nat) (l : Int) (bl : Nat) (e : Ending) (w' : World) : Prop :=
  ∃ (k n : Int) (A : Option Addr) (len c : Nat) (E l' : Int), e = .returned (.tuple #[.agg #[.int .i64 k, .int .i64 n, .slice A len c], .int .i64 E]) ∧
    w'.heap[bl]? = some (.cells #[.int .i64 l'] 3 (0, 0)) ∧ l' ≤ l ∧ -1 ≤ l' ∧ Grew (fun b => b = bl) w w' ∧
    ((E = -1 ∧ ∀ t x, ¬ Want s p l t x) ∨ ∃ (t : Tm) (q : Nat), E = q ∧ 0 ≤ l' ∧ p < q ∧ q ≤ s.length ∧ TR w' (fun b => w.heap.size ≤ b) t (.agg #[.int .i64 k, .int .i64 n, .slice A len c]) ∧
      ∀ t' x, Want s p l t' x → t' = t ∧ q = p + (txt t').length ∧ l' = l - size t')
/-- The world within read: the counter, the result's cell, the term that is built. -/
structure RW (w : World) (bl : Nat) (l' k n : Int) (v : Value) (wr : World) : Prop where
  hb : bl < w.heap.size
  hg : Grew (fun b => b = bl) w wr
  hs : w.heap.size + 2 ≤ wr.heap.size
  hl : wr.heap[bl]? = some (.cells #[.int .i64 l'] 3 (0, 0))
  hr : wr.heap[w.heap.size]? = some (.cells #[.int .i64 0, .int .i64 0, .slice none 0 0] 25 (0, 0))
  ht : wr.heap[w.heap.size + 1]? = some (.cells #[.int .i64 k, .int .i64 n, v] 25 (0, 0))
theorem Grew.fresh {S : Nat → Prop} {w w' : World} (h : Grew S w w') {g j : Nat} (hg : w.heap.size ≤ g) (v : Value) : Grew S w (w'.setCell ⟨g, j, none⟩ v) :=
  ⟨h.os, h.tape, h.output, by have := h.size; simpa [World.setCell] using this, fun k hk hs => (Below.heap_setCell _ _ _ _ fun e => by simp at e; omega).trans (h.block k hk hs)⟩
theorem RW.grew {w wr w1 : World} {bl : Nat} {l' k n : Int} {v : Value} (h : RW w bl l' k n v wr) (hg : Grew None_ wr w1) : RW w bl l' k n v w1 :=
  ⟨h.hb, h.hg.trans hg.any, Nat.le_trans h.hs hg.size, hg.heap h.hl fun h => h.elim, hg.heap h.hr fun h => h.elim, hg.heap h.ht fun h => h.elim⟩
theorem RW.set {w wr : World} {bl : Nat} {l' k n k' n' : Int} {v v' : Value} (h : RW w bl l' k n v wr) (j : Nat) (x : Value) (hc : (#[.int .i64 k, .int .i64 n, v] : Array Value).setIfInBounds j x = #[.int .i64 k', .int .i64 n', v']) :
    RW w bl l' k' n' v' (wr.setCell ⟨w.heap.size + 1, j, none⟩ x) := by
  refine ⟨h.hb, h.hg.fresh (by omega) _, by have := h.hs; simpa [World.setCell] using this, ?_, ?_, ?_⟩
  · rw [Below.heap_setCell _ _ _ _ (by have := h.hb; simp; omega)]; exact h.hl
  · rw [Below.heap_setCell _ _ _ _ (by simp)]; exact h.hr
  · rw [← hc]; exact blk_set h.ht j x
theorem RW.kind {w wr : World} {bl : Nat} {l' k n : Int} {v : Value} (h : RW w bl l' k n v wr) (k' : Int) : RW w bl l' k' n v (wr.setCell ⟨w.heap.size + 1, 0, none⟩ (.int .i64 k')) := h.set 0 _ (by simp)
theorem RW.out {w wr : World} {bl : Nat} {l' k n : Int} {v : Value} (h : RW w bl l' k n v wr) (a b c : Value) :
    Grew (fun b => b = bl) w (((wr.setCell ⟨w.heap.size, 0, none⟩ a).setCell ⟨w.heap.size, 1, none⟩ b).setCell ⟨w.heap.size, 2, none⟩ c) ∧
    (((wr.setCell ⟨w.heap.size, 0, none⟩ a).setCell ⟨w.heap.size, 1, none⟩ b).setCell ⟨w.heap.size, 2, none⟩ c).heap[bl]? = some (.cells #[.int .i64 l'] 3 (0, 0)) ∧
    (((wr.setCell ⟨w.heap.size, 0, none⟩ a).setCell ⟨w.heap.size, 1, none⟩ b).setCell ⟨w.heap.size, 2, none⟩ c).heap[w.heap.size]? = some (.cells #[a, b, c] 25 (0, 0)) ∧
    Grew (fun b => b = w.heap.size) wr (((wr.setCell ⟨w.heap.size, 0, none⟩ a).setCell ⟨w.heap.size, 1, none⟩ b).setCell ⟨w.heap.size, 2, none⟩ c) := by
  refine ⟨((h.hg.fresh (Nat.le_refl _) _).fresh (Nat.le_refl _) _).fresh (Nat.le_refl _) _, ?_, ?_, (((Grew.refl (fun b => b = w.heap.size) wr).setCell rfl _).setCell rfl _).setCell rfl _⟩
  · have := h.hb
    rw [Below.heap_setCell _ _ _ _ (by simp; omega), Below.heap_setCell _ _ _ _ (by simp; omega), Below.heap_setCell _ _ _ _ (by simp; omega)]; exact h.hl
  · exact (blk_set (blk_set (blk_set h.hr 0 a) 1 b) 2 c).trans (by simp)
theorem RW.cells {w wr : World} {bl : Nat} {l' k n : Int} {v : Value} (h : RW w bl l' k n v wr) (a b c : Value) (j : Nat) :
    (((wr.setCell ⟨w.heap.size, 0, none⟩ a).setCell ⟨w.heap.size, 1, none⟩ b).setCell ⟨w.heap.size, 2, none⟩ c).cell? ⟨w.heap.size, j, none⟩ = (#[a, b, c] : Array Value)[j]? := blk_cell (h.out a b c).2.2.1 j
theorem RW.fin {w wr : World} {bl : Nat} {l' k n k' n' : Int} {v : Value} {A : Option Addr} {len c : Nat} {E : Int} {s : Bs} {p : Nat} {l : Int} (h : RW w bl l' k n v wr) (hl : l' ≤ l) (hl2 : -1 ≤ l')
    (hf : (E = -1 ∧ ∀ t x, ¬ Want s p l t x) ∨ ∃ (t : Tm) (q : Nat), E = q ∧ 0 ≤ l' ∧ p < q ∧ q ≤ s.length ∧ TR wr (fun b => w.heap.size + 1 ≤ b) t (.agg #[.int .i64 k', .int .i64 n', .slice A len c]) ∧
      ∀ t' x, Want s p l t' x → t' = t ∧ q = p + (txt t').length ∧ l' = l - size t') :
    ReadR w s p l bl (.returned (.tuple #[.agg #[.int .i64 k', .int .i64 n', .slice A len c], .int .i64 E])) (((wr.setCell ⟨w.heap.size, 0, none⟩ (.int .i64 k')).setCell ⟨w.heap.size, 1, none⟩ (.int .i64 n')).setCell ⟨w.heap.size, 2, none⟩ (.slice A len c)) := by
  obtain ⟨o1, o2, _, o4⟩ := h.out (.int .i64 k') (.int .i64 n') (.slice A len c)
  refine ⟨k', n', A, len, c, E, l', rfl, o2, hl, hl2, o1, ?_⟩
  rcases hf with hf | ⟨t, q, h1, h2, h3, h4, h5, h6⟩
  · exact .inl hf
  · exact .inr ⟨t, q, h1, h2, h3, h4, (h5.grew o4 fun b hb e => by omega).mono fun b hb _ => by omega, h6⟩
theorem RW.call {w wr w1 : World} {bl : Nat} {l' l3 k n : Int} {v : Value} (h : RW w bl l' k n v wr) (hg : Grew (fun b => b = bl) wr w1) (hl : w1.heap[bl]? = some (.cells #[.int .i64 l3] 3 (0, 0))) : RW w bl l3 k n v w1 :=
  ⟨h.hb, h.hg.trans hg, Nat.le_trans h.hs hg.size, hl, hg.heap h.hr fun e => by have := h.hb; omega, hg.heap h.ht fun e => by have := h.hb; omega⟩
theorem RW.away {w wr w1 : World} {bl : Nat} {l' k n : Int} {v : Value} (h : RW w bl l' k n v wr) (hg : Grew (fun b => w.heap.size + 2 ≤ b) wr w1) : RW w bl l' k n v w1 := by
  have hb := h.hb
  refine ⟨h.hb, ?_, Nat.le_trans h.hs hg.size, hg.heap h.hl fun e => by omega, hg.heap h.hr fun e => by omega, hg.heap h.ht fun e => by omega⟩
  exact ⟨hg.os.trans h.hg.os, hg.tape.trans h.hg.tape, hg.output.trans h.hg.output, Nat.le_trans h.hg.size hg.size, fun k hk hs => (hg.block k (by have := h.hs; omega) fun e => by omega).trans (h.hg.block k hk hs)⟩
theorem RW.cellsA {w wr : World} {bl : Nat} {l' k n : Int} {v : Value} (h : RW w bl l' k n v wr) (a b c : Value) (j : Nat) (o : Obj) :
    ((((wr.setCell ⟨w.heap.size, 0, none⟩ a).setCell ⟨w.heap.size, 1, none⟩ b).setCell ⟨w.heap.size, 2, none⟩ c).alloc o).cell? ⟨w.heap.size, j, none⟩ = (#[a, b, c] : Array Value)[j]? :=
  ((bself _ o).cell (p := ⟨w.heap.size, j, none⟩) (Array.getElem?_eq_some_iff.1 (h.out a b c).2.2.1).1).trans (h.cells a b c j)
theorem ReadR.alloc {w w' : World} {s : Bs} {p : Nat} {l : Int} {bl : Nat} {e : Ending} (h : ReadR w s p l bl e w') (o : Obj) : ReadR w s p l bl e (w'.alloc o) := by
  obtain ⟨k, n, A, len, c, E, l', h1, h2, h3, h4, h5, h6⟩ := h
  refine ⟨k, n, A, len, c, E, l', h1, ?_, h3, h4, h5.trans (Grew.alloc _ _ _), ?_⟩
  · rw [Below.heap_alloc _ _ _ (Array.getElem?_eq_some_iff.1 h2).1]; exact h2
  · rcases h6 with h6 | ⟨t, q, a1, a2, a3, a4, a5, a6⟩
    · exact .inl h6
    · exact .inr ⟨t, q, a1, a2, a3, a4, a5.bel (bself _ _), a6⟩
theorem heap_alloc2 (w : World) (X Y : Obj) : ((w.alloc X).alloc Y).heap[w.heap.size + 1]? = some Y := by have := heap_alloc_new (w.alloc X) Y; simpa using this
theorem ones3 (k n : Int) (A : Option Addr) (l c : Nat) : ∀ u ∈ [Value.int .i64 k, .int .i64 n, .slice A l c], u.oneCell' = true := by
  intro u hu
  simp only [List.mem_cons, List.not_mem_nil, or_false] at hu
  rcases hu with rfl | rfl | rfl <;> rfl
theorem runD_le (s : Bs) {p : Nat} (h : p ≤ s.length) : p ≤ runD s p ∧ runD s p ≤ s.length := by
  unfold runD
  have := (List.takeWhile_sublist dig (l := s.drop p)).length_le
  rw [List.length_drop] at this
  omega
theorem bs_extract (s : Bs) (a b : Nat) : (⟨s.toArray⟩ : ByteArray).extract a b = ⟨((s.take b).drop a).toArray⟩ := by
  apply ByteArray.ext
  simp [ByteArray.data_extract, List.drop_take]
set_option maxRecDepth 100000 in
set_option maxHeartbeats 2000000 in
theorem read_any (s : Bs) (hs : s.length ≤ 100000) : ∀ (N : Nat) (p : Nat) (l : Int) (bl : Nat) (w : World), l ≤ N → 0 ≤ l → l ≤ 2000 → p ≤ s.length → w.heap[bl]? = some (.cells #[.int .i64 l] 3 (0, 0)) →
    Calls Tryd.prog 52 #[.string ⟨s.toArray⟩, .int .i64 p, .pointer (some ⟨bl, 0, none⟩)] w (ReadR w s p l bl) := by
  have z := bs_size s
  intro N
  induction N with
  | zero =>
    intro p l bl w h1 h2 h3 hp hbl
    obtain rfl : l = 0 := by omega
    have hlt := (Array.getElem?_eq_some_iff.1 hbl).1
    have q0 := (blk_cell hbl 0).trans rfl
    have f0 := blk_free hbl 0
    have HBL := Lib.hid hbl
    clear hbl
    go_enter Tryd.func52, Tryd.ntmps52
    go_wp2_with fail
    have hs6 : (w.setCell ⟨bl, 0, none⟩ (.int .i64 (-1))).heap.size = w.heap.size := by simp [World.setCell]
    have hz := cell3_load (heap_alloc_new (w.setCell ⟨bl, 0, none⟩ (.int .i64 (-1))) (.cells #[.int .i64 0, .int .i64 0, .slice none 0 0] 25))
    rw [hs6] at hz
    obtain ⟨z0, z1, z2, _, _, _⟩ := hz
    refine bodyPost_ret (v := .tuple #[.agg #[.int .i64 0, .int .i64 0, .slice none 0 0], .int .i64 (-1)]) (by simp [results, Tryd.results52, go_sem, z0, z1, z2]) rfl ⟨0, 0, none, 0, 0, -1, -1, rfl, ?_, by omega, by omega, ?_, .inl ⟨rfl, fun t x hw => ?_⟩⟩
    · rw [Below.heap_alloc _ _ _ (by rw [hs6]; exact hlt)]
      exact (blk_set HBL.out 0 _).trans (by simp)
    · exact ((Grew.refl (fun b => b = bl) w).setCell rfl _).trans (Grew.alloc _ _ _)
    · have := size_pos t; have := hw.hs; omega
  | succ N ih =>
    intro p l bl w h1 h2 h3 hp hbl
    by_cases hl0 : l ≤ N
    · exact ih p l bl w hl0 h2 h3 hp hbl
    have hlt := (Array.getElem?_eq_some_iff.1 hbl).1
    have q0 := (blk_cell hbl 0).trans rfl
    have f0 := blk_free hbl 0
    have HBL := Lib.hid hbl
    have hl1 : 1 ≤ l := by omega
    have hneg : ¬ l - 1 < 0 := by omega
    clear hbl
    go_enter Tryd.func52, Tryd.ntmps52
    go_upto_block 0 with fail
    obtain ⟨W1, hW1⟩ : ∃ W1, W1 = (w.setCell ⟨bl, 0, none⟩ (.int .i64 (l - 1))).alloc (.cells #[.int .i64 0, .int .i64 0, .slice none 0 0] 25) := ⟨_, rfl⟩
    have hs6 : (w.setCell ⟨bl, 0, none⟩ (.int .i64 (l - 1))).heap.size = w.heap.size := by simp [World.setCell]
    have HG1 : Hid (Grew (fun b => b = bl) w W1) := by rw [hW1]; exact ((Grew.refl (fun b => b = bl) w).setCell rfl _).trans (Grew.alloc _ _ _)
    have HS1 : Hid (W1.heap.size = w.heap.size + 1) := by rw [hW1, World.size_alloc, hs6]; rfl
    have HBL1 : Hid (W1.heap[bl]? = some (.cells #[.int .i64 (l - 1)] 3 (0, 0))) := by
      rw [hW1]; unfold Hid; rw [Below.heap_alloc _ _ _ (by rw [hs6]; exact hlt)]; exact (blk_set HBL.out 0 _).trans (by simp)
    have HR1 : Hid (W1.heap[w.heap.size]? = some (.cells #[.int .i64 0, .int .i64 0, .slice none 0 0] 25 (0, 0))) := by
      rw [hW1, ← hs6]; exact heap_alloc_new _ _
    rw [← hW1]
    clear hW1 hs6 q0 f0
    go_cut [1] from 30 to 47 (fun at_ w' => ∃ q : Nat, at_ = .int .i64 q ∧ q = runL s p ∧ w' = W1)
    case first =>
      go_wp2_with fail
      go_loopw [1] (fun i wr => ∃ (j : Nat), i = .int .i64 j ∧ j ≤ s.length ∧ Hid (runL s j = runL s p) ∧ wr = W1) (fun i _ => s.length - (intOf i).toNat)
      case atStart => exact ⟨p, rfl, hp, rfl, rfl⟩
      case round =>
        obtain ⟨j, rfl, hj, HX, rfl⟩ := hrel
        by_cases hlt2 : j < s.length
        · obtain ⟨c, hc⟩ : ∃ c, s[j]? = some c := ⟨_, List.getElem?_eq_getElem hlt2⟩
          have hb := byte_at hc
          have HC := Lib.hid hc
          clear hc
          by_cases h4 : c.toNat < 97
          · have e1 : ¬ ((c.toNat : Nat) : Int) ≥ 97 := by omega
            have HD : Hid (low c = false) := by unfold Hid; simp only [low, decide_eq_false_iff_not]; omega
            go_wp2_with fail
            go_meet
            case rel => exact ⟨j, rfl, by rw [← HX.out, runL_step HC.out, HD.out]; rfl, rfl⟩
          · by_cases h5 : c.toNat > 122
            · have e1 : ((c.toNat : Nat) : Int) ≥ 97 := by omega
              have e2 : ¬ ((c.toNat : Nat) : Int) ≤ 122 := by omega
              have HD : Hid (low c = false) := by unfold Hid; simp only [low, decide_eq_false_iff_not]; omega
              go_wp2_with fail
              go_meet
              case rel => exact ⟨j, rfl, by rw [← HX.out, runL_step HC.out, HD.out]; rfl, rfl⟩
            · have e1 : ((c.toNat : Nat) : Int) ≥ 97 := by omega
              have e2 : ((c.toNat : Nat) : Int) ≤ 122 := by omega
              have HD : Hid (low c = true) := by unfold Hid; simp only [low, decide_eq_true_eq]; omega
              go_wp2_with fail
              go_roundw
              case rel => exact ⟨j + 1, by go_num, by omega, by unfold Hid; rw [← HX.out, runL_step HC.out, HD.out]; rfl, by first | rfl | trivial⟩
              case measure => simp [intOf]; omega
        · obtain rfl : j = s.length := by omega
          go_wp2_with fail
          go_meet
          case rel => exact ⟨s.length, rfl, by rw [← HX.out, runL_end], rfl⟩
    case rest =>
      obtain ⟨q, rfl, hq, rfl⟩ := hcut
      subst hq
      have HQ := Lib.hid (runL_le s hp)
      go_upto_block 2 with fail
      have hwc := HS1.out
      rw [hwc]
      obtain ⟨W2, hW2⟩ : ∃ W2, W2 = wc.alloc (.cells #[.int .i64 0, .int .i64 0, .slice none 0 0] 25) := ⟨_, rfl⟩
      have HRW : Hid (RW w bl (l - 1) 0 0 (.slice none 0 0) W2) := by
        rw [hW2]
        refine ⟨hlt, HG1.out.trans (Grew.alloc _ _ _), by simp [hwc], ?_, ?_, ?_⟩
        · rw [Below.heap_alloc _ _ _ (by omega)]; exact HBL1.out
        · rw [Below.heap_alloc _ _ _ (by omega)]; exact HR1.out
        · rw [← hwc]; exact heap_alloc_new _ _
      rw [← hW2]
      clear hW2 hwc HG1 HS1 HBL1 HR1
      go_wp2_with fail
      go_loopw [10] (fun i wr => ∃ (j : Nat), i = .int .i64 (j + 1) ∧ j ≤ 9 ∧ Hid (RW w bl (l - 1) (kOf ((s.take (runL s p)).drop p) j) 0 (.slice none 0 0) wr)) (fun i _ => 10 - (intOf i).toNat)
      case atStart => exact ⟨0, rfl, by omega, HRW⟩
      case round =>
        obtain ⟨j, rfl, hj, HR⟩ := hrel
        by_cases hj9 : j < 9
        · have e1 : (j : Int) + 1 ≤ 9 := by omega
          go_wp2_with fail
          refine wp_region_post 8 (R := fun _ => Grew None_) (B := fun _ _ => True) (C := Grew (None_) wr)
            [fun v _ => v = .string ⟨s.toArray⟩,
              fun v _ => v = .int .i64 p,
              fun v _ => v = .int .i64 (runL s p : Nat),
              fun v _ => v = .string ⟨((s.take (runL s p)).drop p).toArray⟩,
              fun v w' => ∃ g, v = .slice (some ⟨g, 0, none⟩) 10 10 ∧ ∀ k : Nat, k ≤ 9 → w'.cell? ⟨g, k, none⟩ = some (.string ⟨(kname k).toArray⟩),
              fun v _ => v = .int .i64 (j + 1),
              fun v w' => ∃ g, v = .pointer (some ⟨g, j + 1, none⟩) ∧ w'.cell? ⟨g, j + 1, none⟩ = some (.string ⟨(kname (j + 1)).toArray⟩),
              fun v _ => v = .string ⟨(kname (j + 1)).toArray⟩]
            [[], [], [], [0, 1, 2], [], [], [4, 5], [4, 5, 6]] (by kernel_rfl) (by kernel_rfl) (by kernel_rfl) (fun _ _ _ _ h h' => h.trans h') ?_ (fun _ _ _ _ _ _ _ _ _ _ _ => trivial) (Grew.drew _ _) (fun _ _ => trivial) ?_ ?_
          · intro i j v w1 w2 _ _ _ hg
            refine lasts ?_ j v
            simp only [List.forall_mem_cons, List.not_mem_nil, false_implies, implies_true, and_true]
            refine ⟨fun _ h => h, fun _ h => h, fun _ h => h, fun _ h => h, fun _ ⟨g, e, h⟩ => ⟨g, e, fun k hk => hg.cell (h k hk) fun h => h.elim⟩, fun _ h => h, fun _ ⟨g, e, h⟩ => ⟨g, e, hg.cell h fun h => h.elim⟩, fun _ h => h⟩
          · intro vals
            simp only [List.take_succ_cons, List.take_zero, Steps_, List.headD_cons, List.tail_cons, List.forall_mem_cons, List.not_mem_nil, false_implies, implies_true, and_true, List.getD_cons_zero, List.getD_cons_succ, Act.put, List.setIfInBounds_toArray, List.set_cons_zero, List.set_cons_succ, Nat.zero_add, Nat.reduceAdd]
            refine ⟨?_, ?_, ?_, ?_, ?_, ?_, ?_, ?_⟩
            · rintro w1 hC _ _
              go_wp2_with fail
              exact ⟨_, rfl, Grew.refl _ _, rfl⟩
            · rintro w1 hC _ _
              go_wp2_with fail
              exact ⟨_, rfl, Grew.refl _ _, rfl⟩
            · rintro w1 hC _ _
              go_wp2_with fail
              exact ⟨_, rfl, Grew.refl _ _, rfl⟩
            · rintro w1 hC _ ⟨h0, h1, h2⟩
              rw [h0, h1, h2]
              have hp1 := HQ.out.1
              have hp2 := HQ.out.2
              have hex := bs_extract s p (runL s p)
              go_wp2_with fail
              exact ⟨_, rfl, Grew.refl _ _, rfl⟩
            · rintro w1 hC _ _
              go_wp2_with (go_at_call 47; refine (names_any _).mono ?_; rintro e w2 ⟨rfl, hF, hb2⟩)
              exact ⟨_, rfl, Grew.of_below hb2, _, rfl, hF⟩
            · rintro w1 hC _ _
              go_wp2_with fail
              exact ⟨_, rfl, Grew.refl _ _, rfl⟩
            · rintro w1 hC _ ⟨h4, h5⟩
              obtain ⟨g, h4, hF⟩ := h4
              have hF := hF (j + 1) (by omega)
              rw [h4]
              rw [h5]
              go_wp2_with fail
              exact ⟨_, rfl, Grew.refl _ _, g, rfl, hF⟩
            · rintro w1 hC _ ⟨h4, h5, h6⟩
              obtain ⟨g, h6, hF⟩ := h6
              clear h4
              rw [h6]
              rw [h5]
              go_wp2_with fail
              exact ⟨_, rfl, Grew.refl _ _, rfl⟩
          · intro vals w1 hC hv
            have x0 : vals 0 = .string ⟨s.toArray⟩ := hv 0 (by omega)
            have x1 : vals 1 = .int .i64 p := hv 1 (by omega)
            have x2 : vals 2 = .int .i64 (runL s p : Nat) := hv 2 (by omega)
            have x3 : vals 3 = .string ⟨((s.take (runL s p)).drop p).toArray⟩ := hv 3 (by omega)
            have x5 : vals 5 = .int .i64 (j + 1) := hv 5 (by omega)
            have x7 : vals 7 = .string ⟨(kname (j + 1)).toArray⟩ := hv 7 (by omega)
            simp only [List.take_succ_cons, List.take_zero, List.drop_succ_cons, List.drop_zero, List.drop_nil, lexA, Act.put, List.setIfInBounds_toArray, List.set_cons_zero, List.set_cons_succ, Nat.zero_add, Nat.reduceAdd, x0, x1, x2, x3, x5, x7]
            clear x0 x1 x2 x3 x5 x7 hv
            have HR1 := Lib.hid (HR.out.grew hC)
            have t0 := (blk_cell HR1.out.ht 0).trans rfl
            have f0 := blk_free HR1.out.ht 0
            generalize vals 4 = z4
            generalize vals 6 = z6
            by_cases hu : ((s.take (runL s p)).drop p) = kname ((j : Int) + 1)
            · have he : (((s.take (runL s p)).drop p) == kname ((j : Int) + 1)) = true := by rw [hu]; simp
              have HK : Hid (kOf ((s.take (runL s p)).drop p) (j + 1) = (j : Int) + 1) := by unfold Hid; rw [kOf, if_pos hu]
              clear hu
              go_wp2_with fail
              go_roundw
              case rel => exact ⟨j + 1, by go_num, by omega, by unfold Hid; rw [HK.out]; exact HR1.out.kind _⟩
              case measure => simp [intOf]; omega
            · have he : (((s.take (runL s p)).drop p) == kname ((j : Int) + 1)) = false := by rw [beq_eq_false_iff_ne]; exact hu
              have HK : Hid (kOf ((s.take (runL s p)).drop p) (j + 1) = kOf ((s.take (runL s p)).drop p) j) := by unfold Hid; rw [kOf, if_neg hu]
              clear hu
              go_wp2_with fail
              go_roundw
              case rel => exact ⟨j + 1, by go_num, by omega, by unfold Hid; rw [HK.out]; exact HR1.out⟩
              case measure => simp [intOf]; omega
        · obtain rfl : j = 9 := by omega
          obtain ⟨k, hk⟩ : ∃ k, k = kOf ((s.take (runL s p)).drop p) 9 := ⟨_, rfl⟩
          have hk09 := kOf_rng ((s.take (runL s p)).drop p) 9
          rw [← hk] at HR hk09
          have HK := Lib.hid hk
          clear hk
          have r0 := (blk_cell HR.out.hr 0).trans rfl
          have r1 := (blk_cell HR.out.hr 1).trans rfl
          have r2 := (blk_cell HR.out.hr 2).trans rfl
          have f0 := blk_free HR.out.hr 0
          have f1 := blk_free HR.out.hr 1
          have f2 := blk_free HR.out.hr 2
          have t0 := (blk_cell HR.out.ht 0).trans rfl
          have t1 := (blk_cell HR.out.ht 1).trans rfl
          have t2 := (blk_cell HR.out.ht 2).trans rfl
          by_cases h0 : k = 0
          · subst h0
            have HNW : Hid (∀ t x, ¬ Want s p l t x) := by
              rintro ⟨k', n', args⟩ x hw
              have h1 := hw.name.1
              rw [← HK.out] at h1
              have := hw.head.1
              omega
            go_wp2_with fail
            obtain ⟨z0, z1, z2⟩ : _ ∧ _ ∧ _ := ⟨HR.out.cells (.int .i64 0) (.int .i64 0) (.slice none 0 0) 0, HR.out.cells (.int .i64 0) (.int .i64 0) (.slice none 0 0) 1, HR.out.cells (.int .i64 0) (.int .i64 0) (.slice none 0 0) 2⟩
            exact bodyPost_ret (v := .tuple #[.agg #[.int .i64 0, .int .i64 0, .slice none 0 0], .int .i64 (-1)]) (by simp [results, Tryd.results52, go_sem, z0, z1, z2]) rfl (HR.out.fin (by omega) (by omega) (.inl ⟨rfl, HNW.out⟩))
          have e0 : (k == 0) = false := by rw [beq_eq_false_iff_ne]; exact h0
          have HQ1 := HQ.out.1
          have HQ2 := HQ.out.2
          by_cases h2 : k ≤ 2
          · obtain ⟨d, hd⟩ : ∃ d, d = runD s (runL s p) := ⟨_, rfl⟩
            have hdl := runD_le s HQ2
            have hnum := number_any s (runL s p) wr hs HQ2
            rw [← hd] at hnum hdl
            have HD := Lib.hid hd
            clear hd
            have hk12 : k = 1 ∨ k = 2 := by omega
            have HNM : Hid (∀ (t : Tm) (x : Bs), Want s p l t x → ∃ u : Nat, t = .mk k u [] ∧ u ≤ 9223372036854775807 ∧ d = runL s p + (Lib.decDigits u).length ∧ (s.take d).drop (runL s p) = Lib.decDigits u ∧ (Lib.decDigits u).length ≤ 19 ∧ 0 < (Lib.decDigits u).length ∧ p + (txt t).length = d) := by
              rintro ⟨k', n', args⟩ x hw
              obtain ⟨w1, w2, _⟩ := hw.name
              rw [← HK.out] at w1
              subst w1
              obtain ⟨rfl, u, rfl, a1, a2, a3, a4, a5⟩ := w2 hk12
              rw [← HD.out] at a2 a3 a5
              exact ⟨u, rfl, a1, a2, a3, a4, List.length_pos_iff.2 (dec_ne u), a5⟩
            have HDL := Lib.hid hdl
            clear HQ1 HQ2 hk12
            by_cases hdq : d = runL s p
            · have HNW : Hid (∀ t x, ¬ Want s p l t x) := fun t x hw => by obtain ⟨u, _, _, a, _, _, b, _⟩ := HNM.out t x hw; omega
              have e3 : ((d : Int) == (runL s p : Nat)) = true := by rw [hdq]; simp
              clear hdq
              go_wp2_with (go_at_call 73; refine hnum.mono ?_; rintro e w2 ⟨rfl, hb2⟩; have HR2 := Lib.hid (HR.out.grew (Grew.of_below hb2)); clear r0 r1 r2 f0 f1 f2 t0 t1 t2; have r0 := (blk_cell HR2.out.hr 0).trans rfl; have r1 := (blk_cell HR2.out.hr 1).trans rfl; have r2 := (blk_cell HR2.out.hr 2).trans rfl; have f0 := blk_free HR2.out.hr 0; have f1 := blk_free HR2.out.hr 1; have f2 := blk_free HR2.out.hr 2; have g0 := blk_free HR2.out.ht 0; have g1 := blk_free HR2.out.ht 1; have g2 := blk_free HR2.out.ht 2; have t0 := (blk_cell HR2.out.ht 0).trans rfl; have t1 := (blk_cell HR2.out.ht 1).trans rfl; have t2 := (blk_cell HR2.out.ht 2).trans rfl)
              obtain ⟨z0, z1, z2⟩ : _ ∧ _ ∧ _ := ⟨HR2.out.cells (.int .i64 k) (.int .i64 0) (.slice none 0 0) 0, HR2.out.cells (.int .i64 k) (.int .i64 0) (.slice none 0 0) 1, HR2.out.cells (.int .i64 k) (.int .i64 0) (.slice none 0 0) 2⟩
              exact bodyPost_ret (v := .tuple #[.agg #[.int .i64 k, .int .i64 0, (.slice none 0 0)], .int .i64 (-1)]) (by simp [results, Tryd.results52, go_sem, z0, z1, z2]) rfl (HR2.out.fin (by omega) (by omega) (.inl ⟨rfl, HNW.out⟩))
            have e3 : ((d : Int) == (runL s p : Nat)) = false := by rw [beq_eq_false_iff_ne]; omega
            by_cases hd19 : (d : Int) > (runL s p : Nat) + 19
            · have HNW : Hid (∀ t x, ¬ Want s p l t x) := fun t x hw => by obtain ⟨u, _, _, a, _, b, _, _⟩ := HNM.out t x hw; omega
              clear hdq
              go_wp2_with (go_at_call 73; refine hnum.mono ?_; rintro e w2 ⟨rfl, hb2⟩; have HR2 := Lib.hid (HR.out.grew (Grew.of_below hb2)); clear r0 r1 r2 f0 f1 f2 t0 t1 t2; have r0 := (blk_cell HR2.out.hr 0).trans rfl; have r1 := (blk_cell HR2.out.hr 1).trans rfl; have r2 := (blk_cell HR2.out.hr 2).trans rfl; have f0 := blk_free HR2.out.hr 0; have f1 := blk_free HR2.out.hr 1; have f2 := blk_free HR2.out.hr 2; have g0 := blk_free HR2.out.ht 0; have g1 := blk_free HR2.out.ht 1; have g2 := blk_free HR2.out.ht 2; have t0 := (blk_cell HR2.out.ht 0).trans rfl; have t1 := (blk_cell HR2.out.ht 1).trans rfl; have t2 := (blk_cell HR2.out.ht 2).trans rfl)
              obtain ⟨z0, z1, z2⟩ : _ ∧ _ ∧ _ := ⟨HR2.out.cells (.int .i64 k) (.int .i64 0) (.slice none 0 0) 0, HR2.out.cells (.int .i64 k) (.int .i64 0) (.slice none 0 0) 1, HR2.out.cells (.int .i64 k) (.int .i64 0) (.slice none 0 0) 2⟩
              exact bodyPost_ret (v := .tuple #[.agg #[.int .i64 k, .int .i64 0, (.slice none 0 0)], .int .i64 (-1)]) (by simp [results, Tryd.results52, go_sem, z0, z1, z2]) rfl (HR2.out.fin (by omega) (by omega) (.inl ⟨rfl, HNW.out⟩))
            · have hex := bs_extract s (runL s p) d
              have hnat := fun w2 => natural_any ((s.take d).drop (runL s p)) w2 (by simp; omega)
              have HPD : Hid (p < d ∧ d ≤ s.length) := ⟨by have := HDL.out.1; have := HQ.out.1; omega, HDL.out.2⟩
              have hdl1 := HDL.out.1
              have hdl2 := HDL.out.2
              clear hdq
              go_wp2_with (first
                | (go_at_call 73; refine hnum.mono ?_; clear hnum; rintro e w2 ⟨rfl, hb2⟩)
                | (go_at_call 74; refine (hnat _).mono ?_; rintro e w3 ⟨x, b, rfl, hx, hxn, hb3⟩; have HXN := Lib.hid hxn; clear hxn; have HR2 := Lib.hid ((HR.out.grew (Grew.of_below hb2)).grew (Grew.of_below hb3)); clear r0 r1 r2 f0 f1 f2 t0 t1 t2; have r0 := (blk_cell HR2.out.hr 0).trans rfl; have r1 := (blk_cell HR2.out.hr 1).trans rfl; have r2 := (blk_cell HR2.out.hr 2).trans rfl; have f0 := blk_free HR2.out.hr 0; have f1 := blk_free HR2.out.hr 1; have f2 := blk_free HR2.out.hr 2; have g0 := blk_free HR2.out.ht 0; have g1 := blk_free HR2.out.ht 1; have g2 := blk_free HR2.out.ht 2; have t0 := (blk_cell HR2.out.ht 0).trans rfl; have t1 := (blk_cell HR2.out.ht 1).trans rfl; have t2 := (blk_cell HR2.out.ht 2).trans rfl))
              · rename_i hbf
                have HNW : Hid (∀ t x, ¬ Want s p l t x) := fun t' x' hw => by
                  obtain ⟨u, _, a1, _, a3, _, _, _⟩ := HNM.out t' x' hw
                  have := (HXN.out u a3 a1).2
                  rw [this] at hbf; cases hbf
                have HR3 := Lib.hid (HR2.out.set (n' := x) (k' := k) (v' := .slice none 0 0) 1 (.int .i64 x) (by simp))
                obtain ⟨z0, z1, z2⟩ : _ ∧ _ ∧ _ := ⟨HR3.out.cells (.int .i64 k) (.int .i64 x) (.slice none 0 0) 0, HR3.out.cells (.int .i64 k) (.int .i64 x) (.slice none 0 0) 1, HR3.out.cells (.int .i64 k) (.int .i64 x) (.slice none 0 0) 2⟩
                exact bodyPost_ret (v := .tuple #[.agg #[.int .i64 k, .int .i64 x, (.slice none 0 0)], .int .i64 (-1)]) (by simp [results, Tryd.results52, go_sem, z0, z1, z2]) rfl (HR3.out.fin (by omega) (by omega) (.inl ⟨rfl, HNW.out⟩))
              · have HR3 := Lib.hid (HR2.out.set (n' := x) (k' := k) (v' := .slice none 0 0) 1 (.int .i64 x) (by simp))
                obtain ⟨z0, z1, z2⟩ : _ ∧ _ ∧ _ := ⟨HR3.out.cells (.int .i64 k) (.int .i64 x) (.slice none 0 0) 0, HR3.out.cells (.int .i64 k) (.int .i64 x) (.slice none 0 0) 1, HR3.out.cells (.int .i64 k) (.int .i64 x) (.slice none 0 0) 2⟩
                exact bodyPost_ret (v := .tuple #[.agg #[.int .i64 k, .int .i64 x, (.slice none 0 0)], .int .i64 d]) (by simp [results, Tryd.results52, go_sem, z0, z1, z2]) rfl (HR3.out.fin (by omega) (by omega) (.inr ⟨.mk k x [], d, rfl, by omega, HPD.out.1, HPD.out.2, TR.of (by unfold i64; omega) (by unfold i64; omega) ⟨none, 0, fun _ => undef, rfl, Nat.le_refl 0, by omega, fun h => absurd h (by simp), fun j a h => by simp at h⟩, fun t' x' hw => by
                  obtain ⟨u, rfl, a1, a2, a3, _, _, a4⟩ := HNM.out t' x' hw
                  rw [(HXN.out u a3 a1).1]
                  exact ⟨rfl, a4.symm, by simp [size, sizeL]⟩⟩))
          · have hk3 : 3 ≤ k := by omega
            have hkk : isKind k = true := by simp only [isKind, decide_eq_true_eq]; omega
            have HMID := Lib.hid (Mid.first (l := l) HK.out.symm hk3)
            obtain ⟨m, hm⟩ : ∃ m, m = arity k := ⟨_, rfl⟩
            have hm2 : m ≤ 2 ∧ 0 < m := by
              rw [hm]
              by_cases h : k = 3 ∨ k = 9
              · rw [ar1 h]; omega
              · rw [ar2 (by omega) (by omega)]; omega
            have HMD : Hid (∀ w2 : World, Calls Tryd.prog 54 #[.int .i64 k] w2 fun e w' => e = .returned (.int .i64 (m : Nat)) ∧ Below w2.heap.size w2 w') := fun w2 => by rw [hm]; exact args_any k w2 hkk
            obtain ⟨hm2, hm0⟩ := hm2
            have HMA := Lib.hid hm
            have HL0 : Hid (w.heap.size + 2 ≤ wr.heap.size) := HR.out.hs
            clear hm hkk
            clear r0 r1 r2 f0 f1 f2 t1 t2
            obtain ⟨i0, hi, hz0, hz1, hz2⟩ := info_parts info25
            go_wp2_with fail
            go_loopw [1, 14] (fun at_ i wr => ∃ (j cur : Nat) (l2 : Int) (done : List Tm) (v : Value), i = .int .i64 j ∧ at_ = .int .i64 cur ∧ j ≤ m ∧ done.length = j ∧ cur ≤ s.length ∧ 0 ≤ l2 ∧ l2 ≤ l - 1 ∧ p ≤ cur ∧
              Hid (RW w bl l2 k 0 v wr) ∧ Hid (OTS wr (w.heap.size + 2) done v) ∧ Hid (Mid s p l k j cur l2 done)) (fun _ i _ => m - (intOf i).toNat)
            case atStart => exact ⟨0, runL s p, l - 1, [], .slice none 0 0, rfl, rfl, Nat.zero_le _, rfl, HQ2, by omega, by omega, HQ1, HR, OTS.nil _ _, HMID⟩
            case round =>
              obtain ⟨j, cur, l2, done, v, rfl, rfl, hj, hdn, hcur, hl2, hl2', hpc, HR2, HO, HMI⟩ := hrel
              subst hdn
              obtain ⟨A, c, rfl, hcl, hcc⟩ := HO.out.form
              by_cases hjm : done.length < m
              · have HJM : Hid (done.length < arity k) := by unfold Hid; rw [← HMA.out]; exact hjm
                rcases Nat.eq_zero_or_pos done.length with hj0 | hj0
                · have ej : ((done.length : Int) == 0) = true := by rw [hj0]; rfl
                  have HWT : Hid ((if done.length = 0 then (40 : UInt8) else 44) = 40) := by unfold Hid; rw [if_pos hj0]
                  clear hj0
                  have r0 := (blk_cell HR2.out.hr 0).trans rfl; have r1 := (blk_cell HR2.out.hr 1).trans rfl; have r2 := (blk_cell HR2.out.hr 2).trans rfl; have f0 := blk_free HR2.out.hr 0; have f1 := blk_free HR2.out.hr 1; have f2 := blk_free HR2.out.hr 2; have g0 := blk_free HR2.out.ht 0; have g1 := blk_free HR2.out.ht 1; have g2 := blk_free HR2.out.ht 2; have t0 := (blk_cell HR2.out.ht 0).trans rfl; have t1 := (blk_cell HR2.out.ht 1).trans rfl; have t2 := (blk_cell HR2.out.ht 2).trans rfl
                  by_cases hce : cur < s.length
                  · obtain ⟨c', hc'⟩ : ∃ c', s[cur]? = some c' := ⟨_, List.getElem?_eq_getElem hce⟩
                    have hb := byte_at hc'
                    have HC' := Lib.hid hc'
                    clear hc'
                    by_cases hcw : c' = 40
                    · have e4 : ((c'.toNat : Nat) : Int) = 40 := by rw [hcw]; rfl
                      have hic : ∀ w1, RW w bl l2 k 0 (.slice A done.length c) w1 → Calls Tryd.prog 52 #[.string ⟨s.toArray⟩, .int .i64 ((cur : Int) + 1), .pointer (some ⟨bl, 0, none⟩)] w1 (ReadR w1 s (cur + 1) l2 bl) := fun w1 h => by
                        have := ih (cur + 1) l2 bl w1 (by omega) hl2 (by omega) (by omega) h.hl
                        push_cast at this; exact this
                      clear hcw
                      go_wp2_with (first
                        | (go_at_call 54; refine (HMD.out _).mono ?_; rintro e w1 ⟨rfl, hb1⟩; have HR3 := Lib.hid (HR2.out.grew (Grew.of_below hb1)); have HO3 := Lib.hid (HO.out.bel hb1); clear r0 r1 r2 f0 f1 f2 g0 g1 g2 t0 t1 t2; have r0 := (blk_cell HR3.out.hr 0).trans rfl; have r1 := (blk_cell HR3.out.hr 1).trans rfl; have r2 := (blk_cell HR3.out.hr 2).trans rfl; have f0 := blk_free HR3.out.hr 0; have f1 := blk_free HR3.out.hr 1; have f2 := blk_free HR3.out.hr 2; have g0 := blk_free HR3.out.ht 0; have g1 := blk_free HR3.out.ht 1; have g2 := blk_free HR3.out.ht 2; have t0 := (blk_cell HR3.out.ht 0).trans rfl; have t1 := (blk_cell HR3.out.ht 1).trans rfl; have t2 := (blk_cell HR3.out.ht 2).trans rfl)
                        | (go_at_call 52; refine (hic _ HR3.out).mono ?_; rintro e w2 ⟨k2, n2, A2, len2, c2, E, l3, rfl, hl3, hl3a, hl3b, hg2, hcase⟩; have HR4 := Lib.hid (HR3.out.call hg2 hl3); have HO4 := Lib.hid (HO3.out.grew hg2 (fun b hb => by have := hlt; omega)); have HCASE := Lib.hid hcase; have HW12 := Lib.hid hg2.size; clear hcase hl3 hg2; clear r0 r1 r2 f0 f1 f2 g0 g1 g2 t0 t1 t2; have r0 := (blk_cell HR4.out.hr 0).trans rfl; have r1 := (blk_cell HR4.out.hr 1).trans rfl; have r2 := (blk_cell HR4.out.hr 2).trans rfl; have f0 := blk_free HR4.out.hr 0; have f1 := blk_free HR4.out.hr 1; have f2 := blk_free HR4.out.hr 2; have g0 := blk_free HR4.out.ht 0; have g1 := blk_free HR4.out.ht 1; have g2 := blk_free HR4.out.ht 2; have t0 := (blk_cell HR4.out.ht 0).trans rfl; have t1 := (blk_cell HR4.out.ht 1).trans rfl; have t2 := (blk_cell HR4.out.ht 2).trans rfl; have s4 := HR4.out.hs; have s5 : w.heap.size + 1 < w2.heap.size := (by omega); have s6 : w.heap.size < w2.heap.size := (by omega); obtain ⟨cs, hcs, _⟩ := HO4.out; have HCS := Lib.hid hcs; clear hcs)
                        | (at_builtin; refine wpList_append_own_at _ rfl _ _ 22 rfl (w.heap.size + 2) 25 i0 _ 3 40 Tryd.underlying22 hi hz0 hz1 hz2 rfl (by decide) (.slice A done.length c) _ cs rfl ((HCS.out.alloc _).alloc _) ⟨w2.heap.size + 1, 0, none⟩ 1 1 [.int .i64 k2, .int .i64 n2, .slice A2 len2 c2] rfl rfl (news3 (heap_alloc2 _ _ _)) (ones3 _ _ _ _ _) ?_ ?_ ?_ ?_; rotate_right; intro v1 w3 hown3 hg3 _ hloc; have HR5 := Lib.hid (((HR4.out.grew (Grew.alloc _ _ _)).grew (Grew.alloc _ _ _)).away (Grew.of_grownBy hg3 (fun k hk => (HO4.out.base k hk).1))); obtain ⟨A9, c9, rfl, _, _⟩ := own_form hown3; clear r0 r1 r2 f0 f1 f2 g0 g1 g2 t0 t1 t2; have r0 := (blk_cell HR5.out.hr 0).trans rfl; have r1 := (blk_cell HR5.out.hr 1).trans rfl; have r2 := (blk_cell HR5.out.hr 2).trans rfl; have f0 := blk_free HR5.out.hr 0; have f1 := blk_free HR5.out.hr 1; have f2 := blk_free HR5.out.hr 2; have g0 := blk_free HR5.out.ht 0; have g1 := blk_free HR5.out.ht 1; have g2 := blk_free HR5.out.ht 2; have t0 := (blk_cell HR5.out.ht 0).trans rfl; have t1 := (blk_cell HR5.out.ht 1).trans rfl; have t2 := (blk_cell HR5.out.ht 2).trans rfl; have HL9 := Lib.hid hloc; have HOW9 := Lib.hid hown3; have HG9 := Lib.hid hg3; clear hloc hown3 hg3))
                      · have HE : Hid (E = -1 ∧ ∀ t x, ¬ Want s p l t x) := by
                          rcases HCASE.out with ⟨h1, h2⟩ | ⟨t2, q2, h1, _⟩
                          · exact ⟨h1, HMI.out.fail HJM.out h2⟩
                          · omega
                        obtain ⟨z0, z1, z2⟩ : _ ∧ _ ∧ _ := ⟨HR4.out.cellsA (.int .i64 k) (.int .i64 0) (.slice A done.length c) 0 (.cells #[.int .i64 k2, .int .i64 n2, .slice A2 len2 c2] 25), HR4.out.cellsA (.int .i64 k) (.int .i64 0) (.slice A done.length c) 1 (.cells #[.int .i64 k2, .int .i64 n2, .slice A2 len2 c2] 25), HR4.out.cellsA (.int .i64 k) (.int .i64 0) (.slice A done.length c) 2 (.cells #[.int .i64 k2, .int .i64 n2, .slice A2 len2 c2] 25)⟩
                        exact bodyPost_ret (v := .tuple #[.agg #[.int .i64 k, .int .i64 0, .slice A done.length c], .int .i64 (-1)]) (by simp [results, Tryd.results52, go_sem, z0, z1, z2]) rfl ((HR4.out.fin (by omega) (by omega) (.inl ⟨rfl, HE.out.2⟩)).alloc _)
                      · obtain ⟨t2, q2, hE, a1, a2, a3, a4, a5⟩ : ∃ (t : Tm) (q : Nat), E = q ∧ 0 ≤ l3 ∧ cur + 1 < q ∧ q ≤ s.length ∧ TR w2 (fun b => w1.heap.size ≤ b) t (.agg #[.int .i64 k2, .int .i64 n2, .slice A2 len2 c2]) ∧ ∀ t' x, Want s (cur + 1) l2 t' x → t' = t ∧ q = cur + 1 + (txt t').length ∧ l3 = l2 - size t' := by
                          rcases HCASE.out with ⟨h1, h2⟩ | h
                          · omega
                          · exact h
                        have hnew := OTS.append (N := w1.heap.size) ((HO4.out.bel (bself _ (.cells #[.int .i64 k2, .int .i64 n2, .slice A2 len2 c2] 25))).bel (bself _ (.cells #[.int .i64 k2, .int .i64 n2, .slice A2 len2 c2] 25))) ((HCS.out.alloc _).alloc _) ((a4.bel (bself _ _)).bel (bself _ _)) (fun k hk => (HO3.out.base k hk).2) HR3.out.hs HOW9.out HG9.out HL9.out
                        refine ⟨⟨done.length + 1, q2, l3, done ++ [t2], .slice A9 (done.length + 1) c9, by go_num, by rw [hE], by omega, by simp, a3, a1, by omega, by omega, HR5.out.set 2 _ (by simp), ?_, HMI.out.next HJM.out a5⟩, by simp [intOf]; omega⟩
                        exact hnew.grew ((Grew.refl (fun b => b = w.heap.size + 1) w3).setCell rfl _) fun k hk => by omega
                      case refine_1 => unfold maxLen; omega
                      case refine_2 => omega
                      case refine_3 => simp; omega
                    · have e4 : (((c'.toNat : Nat) : Int) != 40) = true := by rw [bne_iff_ne]; exact fun h => hcw (UInt8.toNat.inj (by show c'.toNat = 40; omega))
                      have HNW : Hid (∀ t x, ¬ Want s p l t x) := HMI.out.bad HJM.out (by rw [HC'.out, HWT.out]; simpa using hcw)
                      clear hcw
                      go_wp2_with (go_at_call 54; refine (HMD.out _).mono ?_; rintro e w1 ⟨rfl, hb1⟩; have HR3 := Lib.hid (HR2.out.grew (Grew.of_below hb1)); have HO3 := Lib.hid (HO.out.bel hb1); clear r0 r1 r2 f0 f1 f2 g0 g1 g2 t0 t1 t2; have r0 := (blk_cell HR3.out.hr 0).trans rfl; have r1 := (blk_cell HR3.out.hr 1).trans rfl; have r2 := (blk_cell HR3.out.hr 2).trans rfl; have f0 := blk_free HR3.out.hr 0; have f1 := blk_free HR3.out.hr 1; have f2 := blk_free HR3.out.hr 2; have g0 := blk_free HR3.out.ht 0; have g1 := blk_free HR3.out.ht 1; have g2 := blk_free HR3.out.ht 2; have t0 := (blk_cell HR3.out.ht 0).trans rfl; have t1 := (blk_cell HR3.out.ht 1).trans rfl; have t2 := (blk_cell HR3.out.ht 2).trans rfl)
                      obtain ⟨z0, z1, z2⟩ : _ ∧ _ ∧ _ := ⟨HR3.out.cells (.int .i64 k) (.int .i64 0) (.slice A done.length c) 0, HR3.out.cells (.int .i64 k) (.int .i64 0) (.slice A done.length c) 1, HR3.out.cells (.int .i64 k) (.int .i64 0) (.slice A done.length c) 2⟩
                      exact bodyPost_ret (v := .tuple #[.agg #[.int .i64 k, .int .i64 0, (.slice A done.length c)], .int .i64 (-1)]) (by simp [results, Tryd.results52, go_sem, z0, z1, z2]) rfl (HR3.out.fin (by omega) (by omega) (.inl ⟨rfl, HNW.out⟩))
                  · have HNW : Hid (∀ t x, ¬ Want s p l t x) := HMI.out.bad HJM.out (by rw [List.getElem?_eq_none (by omega)]; simp)
                    go_wp2_with (go_at_call 54; refine (HMD.out _).mono ?_; rintro e w1 ⟨rfl, hb1⟩; have HR3 := Lib.hid (HR2.out.grew (Grew.of_below hb1)); have HO3 := Lib.hid (HO.out.bel hb1); clear r0 r1 r2 f0 f1 f2 g0 g1 g2 t0 t1 t2; have r0 := (blk_cell HR3.out.hr 0).trans rfl; have r1 := (blk_cell HR3.out.hr 1).trans rfl; have r2 := (blk_cell HR3.out.hr 2).trans rfl; have f0 := blk_free HR3.out.hr 0; have f1 := blk_free HR3.out.hr 1; have f2 := blk_free HR3.out.hr 2; have g0 := blk_free HR3.out.ht 0; have g1 := blk_free HR3.out.ht 1; have g2 := blk_free HR3.out.ht 2; have t0 := (blk_cell HR3.out.ht 0).trans rfl; have t1 := (blk_cell HR3.out.ht 1).trans rfl; have t2 := (blk_cell HR3.out.ht 2).trans rfl)
                    obtain ⟨z0, z1, z2⟩ : _ ∧ _ ∧ _ := ⟨HR3.out.cells (.int .i64 k) (.int .i64 0) (.slice A done.length c) 0, HR3.out.cells (.int .i64 k) (.int .i64 0) (.slice A done.length c) 1, HR3.out.cells (.int .i64 k) (.int .i64 0) (.slice A done.length c) 2⟩
                    exact bodyPost_ret (v := .tuple #[.agg #[.int .i64 k, .int .i64 0, (.slice A done.length c)], .int .i64 (-1)]) (by simp [results, Tryd.results52, go_sem, z0, z1, z2]) rfl (HR3.out.fin (by omega) (by omega) (.inl ⟨rfl, HNW.out⟩))
                · have ej : ((done.length : Int) == 0) = false := by rw [beq_eq_false_iff_ne]; omega
                  have HWT : Hid ((if done.length = 0 then (40 : UInt8) else 44) = 44) := by unfold Hid; rw [if_neg (by omega)]
                  clear hj0
                  have r0 := (blk_cell HR2.out.hr 0).trans rfl; have r1 := (blk_cell HR2.out.hr 1).trans rfl; have r2 := (blk_cell HR2.out.hr 2).trans rfl; have f0 := blk_free HR2.out.hr 0; have f1 := blk_free HR2.out.hr 1; have f2 := blk_free HR2.out.hr 2; have g0 := blk_free HR2.out.ht 0; have g1 := blk_free HR2.out.ht 1; have g2 := blk_free HR2.out.ht 2; have t0 := (blk_cell HR2.out.ht 0).trans rfl; have t1 := (blk_cell HR2.out.ht 1).trans rfl; have t2 := (blk_cell HR2.out.ht 2).trans rfl
                  by_cases hce : cur < s.length
                  · obtain ⟨c', hc'⟩ : ∃ c', s[cur]? = some c' := ⟨_, List.getElem?_eq_getElem hce⟩
                    have hb := byte_at hc'
                    have HC' := Lib.hid hc'
                    clear hc'
                    by_cases hcw : c' = 44
                    · have e4 : ((c'.toNat : Nat) : Int) = 44 := by rw [hcw]; rfl
                      have hic : ∀ w1, RW w bl l2 k 0 (.slice A done.length c) w1 → Calls Tryd.prog 52 #[.string ⟨s.toArray⟩, .int .i64 ((cur : Int) + 1), .pointer (some ⟨bl, 0, none⟩)] w1 (ReadR w1 s (cur + 1) l2 bl) := fun w1 h => by
                        have := ih (cur + 1) l2 bl w1 (by omega) hl2 (by omega) (by omega) h.hl
                        push_cast at this; exact this
                      clear hcw
                      go_wp2_with (first
                        | (go_at_call 54; refine (HMD.out _).mono ?_; rintro e w1 ⟨rfl, hb1⟩; have HR3 := Lib.hid (HR2.out.grew (Grew.of_below hb1)); have HO3 := Lib.hid (HO.out.bel hb1); clear r0 r1 r2 f0 f1 f2 g0 g1 g2 t0 t1 t2; have r0 := (blk_cell HR3.out.hr 0).trans rfl; have r1 := (blk_cell HR3.out.hr 1).trans rfl; have r2 := (blk_cell HR3.out.hr 2).trans rfl; have f0 := blk_free HR3.out.hr 0; have f1 := blk_free HR3.out.hr 1; have f2 := blk_free HR3.out.hr 2; have g0 := blk_free HR3.out.ht 0; have g1 := blk_free HR3.out.ht 1; have g2 := blk_free HR3.out.ht 2; have t0 := (blk_cell HR3.out.ht 0).trans rfl; have t1 := (blk_cell HR3.out.ht 1).trans rfl; have t2 := (blk_cell HR3.out.ht 2).trans rfl)
                        | (go_at_call 52; refine (hic _ HR3.out).mono ?_; rintro e w2 ⟨k2, n2, A2, len2, c2, E, l3, rfl, hl3, hl3a, hl3b, hg2, hcase⟩; have HR4 := Lib.hid (HR3.out.call hg2 hl3); have HO4 := Lib.hid (HO3.out.grew hg2 (fun b hb => by have := hlt; omega)); have HCASE := Lib.hid hcase; have HW12 := Lib.hid hg2.size; clear hcase hl3 hg2; clear r0 r1 r2 f0 f1 f2 g0 g1 g2 t0 t1 t2; have r0 := (blk_cell HR4.out.hr 0).trans rfl; have r1 := (blk_cell HR4.out.hr 1).trans rfl; have r2 := (blk_cell HR4.out.hr 2).trans rfl; have f0 := blk_free HR4.out.hr 0; have f1 := blk_free HR4.out.hr 1; have f2 := blk_free HR4.out.hr 2; have g0 := blk_free HR4.out.ht 0; have g1 := blk_free HR4.out.ht 1; have g2 := blk_free HR4.out.ht 2; have t0 := (blk_cell HR4.out.ht 0).trans rfl; have t1 := (blk_cell HR4.out.ht 1).trans rfl; have t2 := (blk_cell HR4.out.ht 2).trans rfl; have s4 := HR4.out.hs; have s5 : w.heap.size + 1 < w2.heap.size := (by omega); have s6 : w.heap.size < w2.heap.size := (by omega); obtain ⟨cs, hcs, _⟩ := HO4.out; have HCS := Lib.hid hcs; clear hcs)
                        | (at_builtin; refine wpList_append_own_at _ rfl _ _ 22 rfl (w.heap.size + 2) 25 i0 _ 3 40 Tryd.underlying22 hi hz0 hz1 hz2 rfl (by decide) (.slice A done.length c) _ cs rfl ((HCS.out.alloc _).alloc _) ⟨w2.heap.size + 1, 0, none⟩ 1 1 [.int .i64 k2, .int .i64 n2, .slice A2 len2 c2] rfl rfl (news3 (heap_alloc2 _ _ _)) (ones3 _ _ _ _ _) ?_ ?_ ?_ ?_; rotate_right; intro v1 w3 hown3 hg3 _ hloc; have HR5 := Lib.hid (((HR4.out.grew (Grew.alloc _ _ _)).grew (Grew.alloc _ _ _)).away (Grew.of_grownBy hg3 (fun k hk => (HO4.out.base k hk).1))); obtain ⟨A9, c9, rfl, _, _⟩ := own_form hown3; clear r0 r1 r2 f0 f1 f2 g0 g1 g2 t0 t1 t2; have r0 := (blk_cell HR5.out.hr 0).trans rfl; have r1 := (blk_cell HR5.out.hr 1).trans rfl; have r2 := (blk_cell HR5.out.hr 2).trans rfl; have f0 := blk_free HR5.out.hr 0; have f1 := blk_free HR5.out.hr 1; have f2 := blk_free HR5.out.hr 2; have g0 := blk_free HR5.out.ht 0; have g1 := blk_free HR5.out.ht 1; have g2 := blk_free HR5.out.ht 2; have t0 := (blk_cell HR5.out.ht 0).trans rfl; have t1 := (blk_cell HR5.out.ht 1).trans rfl; have t2 := (blk_cell HR5.out.ht 2).trans rfl; have HL9 := Lib.hid hloc; have HOW9 := Lib.hid hown3; have HG9 := Lib.hid hg3; clear hloc hown3 hg3))
                      · have HE : Hid (E = -1 ∧ ∀ t x, ¬ Want s p l t x) := by
                          rcases HCASE.out with ⟨h1, h2⟩ | ⟨t2, q2, h1, _⟩
                          · exact ⟨h1, HMI.out.fail HJM.out h2⟩
                          · omega
                        obtain ⟨z0, z1, z2⟩ : _ ∧ _ ∧ _ := ⟨HR4.out.cellsA (.int .i64 k) (.int .i64 0) (.slice A done.length c) 0 (.cells #[.int .i64 k2, .int .i64 n2, .slice A2 len2 c2] 25), HR4.out.cellsA (.int .i64 k) (.int .i64 0) (.slice A done.length c) 1 (.cells #[.int .i64 k2, .int .i64 n2, .slice A2 len2 c2] 25), HR4.out.cellsA (.int .i64 k) (.int .i64 0) (.slice A done.length c) 2 (.cells #[.int .i64 k2, .int .i64 n2, .slice A2 len2 c2] 25)⟩
                        exact bodyPost_ret (v := .tuple #[.agg #[.int .i64 k, .int .i64 0, .slice A done.length c], .int .i64 (-1)]) (by simp [results, Tryd.results52, go_sem, z0, z1, z2]) rfl ((HR4.out.fin (by omega) (by omega) (.inl ⟨rfl, HE.out.2⟩)).alloc _)
                      · obtain ⟨t2, q2, hE, a1, a2, a3, a4, a5⟩ : ∃ (t : Tm) (q : Nat), E = q ∧ 0 ≤ l3 ∧ cur + 1 < q ∧ q ≤ s.length ∧ TR w2 (fun b => w1.heap.size ≤ b) t (.agg #[.int .i64 k2, .int .i64 n2, .slice A2 len2 c2]) ∧ ∀ t' x, Want s (cur + 1) l2 t' x → t' = t ∧ q = cur + 1 + (txt t').length ∧ l3 = l2 - size t' := by
                          rcases HCASE.out with ⟨h1, h2⟩ | h
                          · omega
                          · exact h
                        have hnew := OTS.append (N := w1.heap.size) ((HO4.out.bel (bself _ (.cells #[.int .i64 k2, .int .i64 n2, .slice A2 len2 c2] 25))).bel (bself _ (.cells #[.int .i64 k2, .int .i64 n2, .slice A2 len2 c2] 25))) ((HCS.out.alloc _).alloc _) ((a4.bel (bself _ _)).bel (bself _ _)) (fun k hk => (HO3.out.base k hk).2) HR3.out.hs HOW9.out HG9.out HL9.out
                        refine ⟨⟨done.length + 1, q2, l3, done ++ [t2], .slice A9 (done.length + 1) c9, by go_num, by rw [hE], by omega, by simp, a3, a1, by omega, by omega, HR5.out.set 2 _ (by simp), ?_, HMI.out.next HJM.out a5⟩, by simp [intOf]; omega⟩
                        exact hnew.grew ((Grew.refl (fun b => b = w.heap.size + 1) w3).setCell rfl _) fun k hk => by omega
                      case refine_1 => unfold maxLen; omega
                      case refine_2 => omega
                      case refine_3 => simp; omega
                    · have e4 : (((c'.toNat : Nat) : Int) != 44) = true := by rw [bne_iff_ne]; exact fun h => hcw (UInt8.toNat.inj (by show c'.toNat = 44; omega))
                      have HNW : Hid (∀ t x, ¬ Want s p l t x) := HMI.out.bad HJM.out (by rw [HC'.out, HWT.out]; simpa using hcw)
                      clear hcw
                      go_wp2_with (go_at_call 54; refine (HMD.out _).mono ?_; rintro e w1 ⟨rfl, hb1⟩; have HR3 := Lib.hid (HR2.out.grew (Grew.of_below hb1)); have HO3 := Lib.hid (HO.out.bel hb1); clear r0 r1 r2 f0 f1 f2 g0 g1 g2 t0 t1 t2; have r0 := (blk_cell HR3.out.hr 0).trans rfl; have r1 := (blk_cell HR3.out.hr 1).trans rfl; have r2 := (blk_cell HR3.out.hr 2).trans rfl; have f0 := blk_free HR3.out.hr 0; have f1 := blk_free HR3.out.hr 1; have f2 := blk_free HR3.out.hr 2; have g0 := blk_free HR3.out.ht 0; have g1 := blk_free HR3.out.ht 1; have g2 := blk_free HR3.out.ht 2; have t0 := (blk_cell HR3.out.ht 0).trans rfl; have t1 := (blk_cell HR3.out.ht 1).trans rfl; have t2 := (blk_cell HR3.out.ht 2).trans rfl)
                      obtain ⟨z0, z1, z2⟩ : _ ∧ _ ∧ _ := ⟨HR3.out.cells (.int .i64 k) (.int .i64 0) (.slice A done.length c) 0, HR3.out.cells (.int .i64 k) (.int .i64 0) (.slice A done.length c) 1, HR3.out.cells (.int .i64 k) (.int .i64 0) (.slice A done.length c) 2⟩
                      exact bodyPost_ret (v := .tuple #[.agg #[.int .i64 k, .int .i64 0, (.slice A done.length c)], .int .i64 (-1)]) (by simp [results, Tryd.results52, go_sem, z0, z1, z2]) rfl (HR3.out.fin (by omega) (by omega) (.inl ⟨rfl, HNW.out⟩))
                  · have HNW : Hid (∀ t x, ¬ Want s p l t x) := HMI.out.bad HJM.out (by rw [List.getElem?_eq_none (by omega)]; simp)
                    go_wp2_with (go_at_call 54; refine (HMD.out _).mono ?_; rintro e w1 ⟨rfl, hb1⟩; have HR3 := Lib.hid (HR2.out.grew (Grew.of_below hb1)); have HO3 := Lib.hid (HO.out.bel hb1); clear r0 r1 r2 f0 f1 f2 g0 g1 g2 t0 t1 t2; have r0 := (blk_cell HR3.out.hr 0).trans rfl; have r1 := (blk_cell HR3.out.hr 1).trans rfl; have r2 := (blk_cell HR3.out.hr 2).trans rfl; have f0 := blk_free HR3.out.hr 0; have f1 := blk_free HR3.out.hr 1; have f2 := blk_free HR3.out.hr 2; have g0 := blk_free HR3.out.ht 0; have g1 := blk_free HR3.out.ht 1; have g2 := blk_free HR3.out.ht 2; have t0 := (blk_cell HR3.out.ht 0).trans rfl; have t1 := (blk_cell HR3.out.ht 1).trans rfl; have t2 := (blk_cell HR3.out.ht 2).trans rfl)
                    obtain ⟨z0, z1, z2⟩ : _ ∧ _ ∧ _ := ⟨HR3.out.cells (.int .i64 k) (.int .i64 0) (.slice A done.length c) 0, HR3.out.cells (.int .i64 k) (.int .i64 0) (.slice A done.length c) 1, HR3.out.cells (.int .i64 k) (.int .i64 0) (.slice A done.length c) 2⟩
                    exact bodyPost_ret (v := .tuple #[.agg #[.int .i64 k, .int .i64 0, (.slice A done.length c)], .int .i64 (-1)]) (by simp [results, Tryd.results52, go_sem, z0, z1, z2]) rfl (HR3.out.fin (by omega) (by omega) (.inl ⟨rfl, HNW.out⟩))
              · have hjm2 : done.length = m := by omega
                have HMI2 : Hid (Mid s p l k (arity k) cur l2 done) := by unfold Hid; rw [← HMA.out, ← hjm2]; exact HMI.out
                have HM0 : Hid (0 < arity k) := by unfold Hid; rw [← HMA.out]; exact hm0
                clear hjm2
                have r0 := (blk_cell HR2.out.hr 0).trans rfl; have r1 := (blk_cell HR2.out.hr 1).trans rfl; have r2 := (blk_cell HR2.out.hr 2).trans rfl; have f0 := blk_free HR2.out.hr 0; have f1 := blk_free HR2.out.hr 1; have f2 := blk_free HR2.out.hr 2; have g0 := blk_free HR2.out.ht 0; have g1 := blk_free HR2.out.ht 1; have g2 := blk_free HR2.out.ht 2; have t0 := (blk_cell HR2.out.ht 0).trans rfl; have t1 := (blk_cell HR2.out.ht 1).trans rfl; have t2 := (blk_cell HR2.out.ht 2).trans rfl
                by_cases hce : cur < s.length
                · obtain ⟨c', hc'⟩ : ∃ c', s[cur]? = some c' := ⟨_, List.getElem?_eq_getElem hce⟩
                  have hb := byte_at hc'
                  have HC' := Lib.hid hc'
                  clear hc'
                  by_cases hcw : c' = 41
                  · have e4 : ((c'.toNat : Nat) : Int) = 41 := by rw [hcw]; rfl
                    clear hcw
                    go_wp2_with (go_at_call 54; refine (HMD.out _).mono ?_; rintro e w1 ⟨rfl, hb1⟩; have HR3 := Lib.hid (HR2.out.grew (Grew.of_below hb1)); have HO3 := Lib.hid (HO.out.bel hb1); clear r0 r1 r2 f0 f1 f2 g0 g1 g2 t0 t1 t2; have r0 := (blk_cell HR3.out.hr 0).trans rfl; have r1 := (blk_cell HR3.out.hr 1).trans rfl; have r2 := (blk_cell HR3.out.hr 2).trans rfl; have f0 := blk_free HR3.out.hr 0; have f1 := blk_free HR3.out.hr 1; have f2 := blk_free HR3.out.hr 2; have g0 := blk_free HR3.out.ht 0; have g1 := blk_free HR3.out.ht 1; have g2 := blk_free HR3.out.ht 2; have t0 := (blk_cell HR3.out.ht 0).trans rfl; have t1 := (blk_cell HR3.out.ht 1).trans rfl; have t2 := (blk_cell HR3.out.ht 2).trans rfl)
                    have HT9 := Lib.hid (TR.of (k := k) (n := 0) (by unfold i64; omega) (by unfold i64; omega) HO3.out.ts)
                    obtain ⟨z0, z1, z2⟩ : _ ∧ _ ∧ _ := ⟨HR3.out.cells (.int .i64 k) (.int .i64 0) (.slice A done.length c) 0, HR3.out.cells (.int .i64 k) (.int .i64 0) (.slice A done.length c) 1, HR3.out.cells (.int .i64 k) (.int .i64 0) (.slice A done.length c) 2⟩
                    exact bodyPost_ret (v := .tuple #[.agg #[.int .i64 k, .int .i64 0, (.slice A done.length c)], .int .i64 ((cur:Int)+1)]) (by simp [results, Tryd.results52, go_sem, z0, z1, z2]) rfl (HR3.out.fin (by omega) (by omega) (.inr ⟨.mk k 0 done, cur + 1, by push_cast; rfl, hl2, by omega, by omega, HT9.out.mono fun b hb _ => by omega, fun t' x hw => by
                      obtain ⟨b1, b2, b3, b4⟩ := HMI2.out.last HM0.out hw
                      exact ⟨b1, b3, b4⟩⟩))
                  · have e4 : (((c'.toNat : Nat) : Int) != 41) = true := by rw [bne_iff_ne]; exact fun h => hcw (UInt8.toNat.inj (by show c'.toNat = 41; omega))
                    have HNW : Hid (∀ t x, ¬ Want s p l t x) := fun t x hw => by
                      have := (HMI2.out.last HM0.out hw).2.1
                      rw [HC'.out] at this
                      exact hcw (by simpa using this)
                    clear hcw
                    go_wp2_with (go_at_call 54; refine (HMD.out _).mono ?_; rintro e w1 ⟨rfl, hb1⟩; have HR3 := Lib.hid (HR2.out.grew (Grew.of_below hb1)); have HO3 := Lib.hid (HO.out.bel hb1); clear r0 r1 r2 f0 f1 f2 g0 g1 g2 t0 t1 t2; have r0 := (blk_cell HR3.out.hr 0).trans rfl; have r1 := (blk_cell HR3.out.hr 1).trans rfl; have r2 := (blk_cell HR3.out.hr 2).trans rfl; have f0 := blk_free HR3.out.hr 0; have f1 := blk_free HR3.out.hr 1; have f2 := blk_free HR3.out.hr 2; have g0 := blk_free HR3.out.ht 0; have g1 := blk_free HR3.out.ht 1; have g2 := blk_free HR3.out.ht 2; have t0 := (blk_cell HR3.out.ht 0).trans rfl; have t1 := (blk_cell HR3.out.ht 1).trans rfl; have t2 := (blk_cell HR3.out.ht 2).trans rfl)
                    obtain ⟨z0, z1, z2⟩ : _ ∧ _ ∧ _ := ⟨HR3.out.cells (.int .i64 k) (.int .i64 0) (.slice A done.length c) 0, HR3.out.cells (.int .i64 k) (.int .i64 0) (.slice A done.length c) 1, HR3.out.cells (.int .i64 k) (.int .i64 0) (.slice A done.length c) 2⟩
                    exact bodyPost_ret (v := .tuple #[.agg #[.int .i64 k, .int .i64 0, (.slice A done.length c)], .int .i64 (-1)]) (by simp [results, Tryd.results52, go_sem, z0, z1, z2]) rfl (HR3.out.fin (by omega) (by omega) (.inl ⟨rfl, HNW.out⟩))
                · have HNW : Hid (∀ t x, ¬ Want s p l t x) := fun t x hw => by
                    have := (HMI2.out.last HM0.out hw).2.1
                    rw [List.getElem?_eq_none (by omega)] at this
                    cases this
                  go_wp2_with (go_at_call 54; refine (HMD.out _).mono ?_; rintro e w1 ⟨rfl, hb1⟩; have HR3 := Lib.hid (HR2.out.grew (Grew.of_below hb1)); have HO3 := Lib.hid (HO.out.bel hb1); clear r0 r1 r2 f0 f1 f2 g0 g1 g2 t0 t1 t2; have r0 := (blk_cell HR3.out.hr 0).trans rfl; have r1 := (blk_cell HR3.out.hr 1).trans rfl; have r2 := (blk_cell HR3.out.hr 2).trans rfl; have f0 := blk_free HR3.out.hr 0; have f1 := blk_free HR3.out.hr 1; have f2 := blk_free HR3.out.hr 2; have g0 := blk_free HR3.out.ht 0; have g1 := blk_free HR3.out.ht 1; have g2 := blk_free HR3.out.ht 2; have t0 := (blk_cell HR3.out.ht 0).trans rfl; have t1 := (blk_cell HR3.out.ht 1).trans rfl; have t2 := (blk_cell HR3.out.ht 2).trans rfl)
                  obtain ⟨z0, z1, z2⟩ : _ ∧ _ ∧ _ := ⟨HR3.out.cells (.int .i64 k) (.int .i64 0) (.slice A done.length c) 0, HR3.out.cells (.int .i64 k) (.int .i64 0) (.slice A done.length c) 1, HR3.out.cells (.int .i64 k) (.int .i64 0) (.slice A done.length c) 2⟩
                  exact bodyPost_ret (v := .tuple #[.agg #[.int .i64 k, .int .i64 0, (.slice A done.length c)], .int .i64 (-1)]) (by simp [results, Tryd.results52, go_sem, z0, z1, z2]) rfl (HR3.out.fin (by omega) (by omega) (.inl ⟨rfl, HNW.out⟩))
end Go.Proofs.YtfhpnkmhppfeiaaDoor
