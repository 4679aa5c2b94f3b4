/- knowledge's can. -/
import Derived.Test.YtfhpnkmhppfeiaaDoorA10
set_option linter.unusedVariables false
set_option linter.unusedSimpArgs false
namespace Go.Proofs.YtfhpnkmhppfeiaaDoor
open Go.RowKit Go.Proofs
set_option maxRecDepth 100000 in
set_option maxHeartbeats 1000000 in
theorem can_any {D : Nat → Prop} {b : Nat} {ts : List Tm} (t : Tm) (v : Value) (w : World) (hK : KM w D b ts) (hf : form t = true) (hs : size t ≤ 2000) (hT : TR w Any t v) (hTab : Tab w) :
    Calls Tryd.prog 39 #[.map (some b), v] w fun e w' => e = .returned (.bool (canB ts t)) ∧ Below w.heap.size w w' := by
  obtain ⟨A, c, rfl⟩ := hT.form3
  have HT := Lib.hid hT
  have HTab := Lib.hid hTab
  have HF := Lib.hid hf
  have HS := Lib.hid hs
  have HK := Lib.hid hK.any
  have hmf : ∀ (fn : Fn) (first cap : Array Value) (w : World), (Instr.makeFunc fn first cap).run Tryd.prog w = .ok (.func fn first cap) w := fun _ _ _ _ => rfl
  have hsf : ∀ (w : World) (a : Addr) (f : Fn) (x y : Array Value), Sem.run Tryd.prog (store a (.func f x y)) w = stored Tryd.prog w a (.func f x y) .plain := fun w a f x y => run_store _ w a _ _ rfl
  clear hT hTab hf hs hK
  obtain ⟨W0, hW0⟩ : ∃ W0 : World, W0 = (w.alloc (.cells #[.map (some b)] 56)).alloc (.cells #[.int .i64 t.k, .int .i64 t.n, .slice A t.args.length c] 25) := ⟨_, rfl⟩
  have HB0 : Hid (Below w.heap.size w W0) := by rw [hW0]; exact balloc (bself w _) _
  have HS0 : Hid (W0.heap.size = w.heap.size + 2) := by rw [hW0]; unfold Hid; simp
  have HH := heap2 w (.cells #[.map (some b)] 56) (.cells #[.int .i64 t.k, .int .i64 t.n, .slice A t.args.length c] 25)
  rw [← hW0] at HH
  have HH0 := Lib.hid HH.1
  have HH1 := Lib.hid HH.2
  clear HH
  have hfo := forms_any W0
  rw [HS0.out] at hfo
  go_enter Tryd.func39, Tryd.ntmps39
  go_wp2_with fail
  rw [← hW0]
  clear hW0
  refine hfo.mono ?_
  rintro e W1 ⟨rfl, hF, hb⟩
  have HB1 : Hid (Below w.heap.size w W1) := bthen HB0.out (by rw [HS0.out]; exact hb)
  have HH0' := Lib.hid ((hb.block _ (by omega)).trans HH0.out)
  have HH1' := Lib.hid ((hb.block _ (by omega)).trans HH1.out)
  have HS1 : Hid (w.heap.size + 2 ≤ W1.heap.size) := by have := hb.size; rw [HS0.out] at this; exact this
  have HFM := Lib.hid hF
  clear hb hF hfo
  have c1 := (blk_cell HH1'.out 0).trans rfl
  have c2 := (blk_cell HH1'.out 1).trans rfl
  have c3 := (blk_cell HH1'.out 2).trans rfl
  have b1 : w.heap.size + 1 < W1.heap.size := by have := HS1.out; omega
  have b2 : w.heap.size + 1 < W1.heap.size + 1 := by omega
  have b3 : ¬ w.heap.size + 1 = W1.heap.size := by omega
  have b4 : ¬ w.heap.size + 1 = W1.heap.size + 1 := by omega
  go_wp2_with (go_at_call 60; refine (can1_any (bA := W1.heap.size) (bC := W1.heap.size + 1) (bK := w.heap.size) (bm := b) (m := w.heap.size + 2) (ts := ts) _ t _ _ (Nat.le_refl _) HF.out HS.out ?hT ?hE).mono ?hm; rotate_right; rintro e w3 ⟨rfl, hb3⟩)
  case hT => exact (HT.out.bel HB1.out).bel (balloc (bself W1 _) _)
  case hE =>
    have hbb := balloc (bself W1 (.cells #[.map (some (w.heap.size + 2))] 59)) (.cells #[.func (.func 60) #[] #[.pointer (some ⟨W1.heap.size, 0, none⟩), .pointer (some ⟨W1.heap.size + 1, 0, none⟩), .pointer (some ⟨w.heap.size, 0, none⟩)]] 84)
    exact ⟨(blk_cell (heap2 W1 _ _).1 0).trans rfl, (blk_cell (heap2 W1 _ _).2 0).trans rfl, (blk_cell ((hbb.block _ (by omega)).trans HH0'.out) 0).trans rfl, HFM.out.bel hbb, HK.out.bel (bthen HB1.out hbb), HTab.out.bel (bthen HB1.out hbb)⟩
  go_ret
  exact ⟨rfl, bthen HB1.out (bthen (balloc (bself W1 _) _) hb3)⟩
end Go.Proofs.YtfhpnkmhppfeiaaDoor
