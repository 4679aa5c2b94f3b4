/- TermsMakes' closure: can a term of two be come to know. -/
import Derived.Test.YtfhpnkmhppfeiaaDoorR12
set_option linter.unusedVariables false
set_option linter.unusedSimpArgs false
namespace Go.Proofs.YtfhpnkmhppfeiaaDoor
open Go.RowKit Go.Proofs
theorem heap_alloc3 (w : World) (X Y Z : Obj) : (((w.alloc X).alloc Y).alloc Z).heap[w.heap.size + 1 + 1]? = some Z := by have := heap_alloc_new ((w.alloc X).alloc Y) Z; simpa using this
/-- A slice of one term that was built. -/
theorem ts_one {w : World} {g : Nat} {a : Tm} {x0 x1 x2 : Value} (h : w.heap[g]? = some (.cells #[x0, x1, x2] 25 (0, 0))) (ha : TR w Any a (.agg #[x0, x1, x2])) : TS w Any [a] (.slice (some ⟨g, 0, none⟩) 1 1) := by
  have q := fun j => blk_cell h j
  refine ⟨some ⟨g, 0, none⟩, 1, fun _ => .agg #[x0, x1, x2], rfl, Nat.le_refl _, by omega, fun _ => ⟨g, 0, rfl, trivial, fun j hj => ?_⟩, fun j t hj => ?_⟩
  · obtain rfl : j = 0 := by simp at hj; omega
    exact ⟨x0, x1, x2, rfl, (q 0).trans rfl, (q 1).trans rfl, (q 2).trans rfl⟩
  · rcases j with _ | j
    · simp at hj; subst hj; exact ha
    · simp at hj
set_option maxRecDepth 100000 in
set_option maxHeartbeats 1000000 in
theorem two_any (L : List Tm) (k : Int) (hk : i64 k) (x y : Tm) (vx vy vl : Value) (g : Nat) (w : World) (hX : TR w Any x vx) (hY : TR w Any y vy) (hT : TS w Any L vl) (hc : w.cell? ⟨g, 0, none⟩ = some vl) (hTab : Tab w) :
    Calls Tryd.prog 22 #[.int .i64 k, vx, vy, .pointer (some ⟨g, 0, none⟩)] w fun e w' => e = .returned (.bool (canS L (.mk k 0 [x, y]))) ∧ Below w.heap.size w w' := by
  obtain ⟨A, c, rfl, hc1, hc2⟩ := hT.form
  obtain ⟨Ax, cx, rfl⟩ := hX.form3
  obtain ⟨Ay, cy, rfl⟩ := hY.form3
  have hgl : g < w.heap.size := World.block_lt_of_cell? w _ hc
  have hgl1 : g < w.heap.size + 1 := by omega
  have hgl2 : g < w.heap.size + 1 + 1 := by omega
  have HCA := Lib.hid (fun (X Y Z : Obj) (hZ : (((w.alloc X).alloc Y).alloc Z).heap[w.heap.size + 1 + 1]? = some (.cells #[.int .i64 x.k, .int .i64 x.n, .slice Ax x.args.length cx, .int .i64 y.k, .int .i64 y.n, .slice Ay y.args.length cy] 25 (0, 0))) =>
    Can_any (.mk k 0 [x, y]) L (.agg #[.int .i64 k, .int .i64 0, .slice (some ⟨w.heap.size + 1 + 1, 0, none⟩) 2 2]) (.slice A L.length c) (((w.alloc X).alloc Y).alloc Z)
      (TR.of hk (by unfold i64; omega) (ts_two hZ (((hX.bel (bself _ _)).bel (bself _ _)).bel (bself _ _)) (((hY.bel (bself _ _)).bel (bself _ _)).bel (bself _ _))))
      (((hT.bel (bself _ _)).bel (bself _ _)).bel (bself _ _)) (((hTab.bel (bself _ _)).bel (bself _ _)).bel (bself _ _)))
  clear hX hY hT hTab
  go_enter Tryd.func22, Tryd.ntmps22
  go_wp2_with (go_at_call 17; refine (HCA.out _ _ _ (heap_alloc3 _ _ _ _)).mono ?_; rintro e w1 ⟨rfl, hb⟩; have HB := Lib.hid hb; clear hb)
  go_ret
  exact ⟨rfl, bthen (balloc (balloc (bself w _) _) _) HB.out⟩
end Go.Proofs.YtfhpnkmhppfeiaaDoor
