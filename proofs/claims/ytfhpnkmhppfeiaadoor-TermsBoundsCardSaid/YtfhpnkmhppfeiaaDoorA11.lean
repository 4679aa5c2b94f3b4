/- maps.Values of what is known: the iterator. -/
import Derived.RangeFuncNested
import Derived.RangeFuncBound
import Derived.RangeFuncCalls
import Derived.RangeFuncLeaves
import Derived.RangeFuncGives
import Derived.Shelf.Abstract
import Derived.Shelf.RegionOpen
import Derived.WalkKit
import Derived.OwnWalkIn
import Derived.TacticsInMore
import Derived.LoopNIn
import Derived.LoopIn
import Derived.Maps.AppendAt
import Derived.Maps.RangeRun
import Derived.Test.YtfhpnkmhppfeiaaDoorA8
import Derived.Test.YtfhpnkmhppfeiaaDoorPost2
set_option linter.unusedVariables false
set_option linter.unusedSimpArgs false
namespace Go.Proofs.YtfhpnkmhppfeiaaDoor
open Go.RowKit Go.Proofs Go.ChangeMaps
attribute [local go_sem] Oper.semAt_some
/-- A value of the shape of a term's. -/
abbrev Ent := { v : Value // ∃ (k n : Int) (A : Option Addr) (l c : Nat), v = .agg #[.int .i64 k, .int .i64 n, .slice A l c] }
theorem perm_left {e : MapEntry} : ∀ {L : List MapEntry}, (L.map (·.born)).Nodup → e ∈ L → L.Perm (e :: L.filter (fun x => x.born != e.born))
  | x :: L, hn, he => by
    have hn' : x.born ∉ L.map (·.born) ∧ (L.map (·.born)).Nodup := List.nodup_cons.1 hn
    rcases List.mem_cons.1 he with rfl | h
    · rw [List.filter_cons_of_neg (by simp), List.filter_eq_self.2 fun y hy => by
        simp only [bne_iff_ne]; intro e'; exact hn'.1 (e' ▸ List.mem_map_of_mem hy)]
    · have hne : x.born ≠ e.born := fun e' => hn'.1 (e' ▸ List.mem_map_of_mem h)
      rw [List.filter_cons_of_pos (by simpa using hne)]
      exact ((perm_left hn'.2 h).cons x).trans (List.Perm.swap _ _ _)
theorem left_push (es : Array MapEntry) (seen : Array Nat) (b : Nat) : (leftOf es (seen.push b)).toList = (leftOf es seen).toList.filter (fun x => x.born != b) := by
  unfold leftOf
  rw [Array.toList_filter, Array.toList_filter, List.filter_filter]
  refine List.filter_congr fun x _ => ?_
  rw [Bool.eq_iff_iff]
  simp
  exact and_comm
theorem left_sub {es : Array MapEntry} {seen : Array Nat} {e : MapEntry} (h : e ∈ (leftOf es seen).toList) : e ∈ es.toList := by
  unfold leftOf at h
  rw [Array.toList_filter] at h
  exact (List.mem_filter.1 h).1
theorem left_nodup {es : Array MapEntry} (seen : Array Nat) (h : (es.toList.map (·.born)).Nodup) : ((leftOf es seen).toList.map (·.born)).Nodup := by
  unfold leftOf
  rw [Array.toList_filter]
  exact h.sublist (List.Sublist.map _ List.filter_sublist)
theorem grown_set {w w1 : World} {r : Nat} {o o' : Obj} (hal : w1 = w ∨ w1 = w.drew) (hr : w.heap[r]? = some o) : w.grownBy (setBlock w1 r o') (some r) := by
  rcases hal with rfl | rfl <;> exact ⟨rfl, rfl, rfl, by simp [setBlock], fun i _ hi => Array.getElem?_setIfInBounds_ne fun e => hi (by rw [e])⟩
def leftN (w : World) (b r : Nat) : Nat :=
  match w.heap[b]?, w.heap[r]? with
  | some (.map es _), some (.mapIter _ _ seen _) => (leftOf es seen).size
  | _, _ => 0
set_option maxRecDepth 100000 in
set_option maxHeartbeats 1000000 in
theorem values1_in (n : Nat) (hn : 1 ≤ n) (l Bm b c : Nat) (es : Array MapEntry) (J : List Ent → World → Prop)
    (hY : ∀ pre x W, J pre W → pre.length < es.size → YieldAt Fence.wide (n - 1) Tryd.prog l #[x.1] W fun e W' => e = .returned (.bool true) ∧ J (pre ++ [x]) W' ∧ KeepsWalks W W')
    (W : World) (hJ : AbidesFrom W.heap.size J) (hm : W.cell? ⟨Bm, 0, none⟩ = some (.map (some b))) (hb : W.heap[b]? = some (.map es c)) (hst : ∀ x ∈ es.toList, x.born < c) (hnd : (es.toList.map (·.born)).Nodup)
    (hval : ∀ e ∈ es.toList, ∃ (k n : Int) (A : Option Addr) (l c : Nat), e.val = .agg #[.int .i64 k, .int .i64 n, .slice A l c]) (h0 : J [] W) :
    CallsIn Fence.wide n Tryd.prog 77 #[.func (.yield l) #[] #[], .pointer (some ⟨Bm, 0, none⟩)] W fun e W' => (∃ v, e = .returned v) ∧ ∃ xs : List Ent, (xs.map (·.1)).Perm (es.toList.map (·.val)) ∧ J xs W' := by
  have hrg := run_range_map (P := Tryd.prog) W 56 9 25 b es c Tryd.underlying56 hb
  have HB := Lib.hid hb
  have HJ := Lib.hid hJ
  have HST := Lib.hid hst
  have HND := Lib.hid hnd
  have HV := Lib.hid hval
  have H0 := Lib.hid h0
  have HY := Lib.hid hY
  clear hb hJ hst hnd hval h0 hY
  refine callsIn_of_wp Tryd.func77 rfl trivial ?_ rfl
  simp only [Tryd.ntmps77, List.size_toArray, List.length_cons, List.length_nil, Nat.reduceAdd, Nat.reduceSub, Array.replicate_succ, Array.replicate_zero, List.push_toArray, List.append_toArray, List.nil_append, List.cons_append]
  gi_wp2
  have hbl := (Array.getElem?_eq_some_iff.1 HB.out).1
  gi_loopw [4] (fun _ wr => ∃ (seen : Array Nat) (ds : List MapEntry) (xs : List Ent), Hid (wr.heap[W.heap.size]? = some (.mapIter (some b) c seen c)) ∧ Hid (wr.heap[b]? = some (.map es c)) ∧ Hid ((ds ++ (leftOf es seen).toList).Perm es.toList) ∧ Hid (xs.map (·.1) = ds.map (·.val)) ∧ Hid (J xs wr))
    (fun _ wr => leftN wr b W.heap.size)
  case atStart =>
    refine ⟨#[], [], [], heap_alloc_new _ _, (Below.heap_alloc _ _ _ hbl).trans HB.out, ?_, rfl, HJ.out [] W _ none H0.out (World.grownBy_alloc _ _ _) (fun r e => by cases e)⟩
    unfold Hid
    have : (leftOf es #[]).toList = es.toList := by unfold leftOf; rw [Array.toList_filter]; exact List.filter_eq_self.2 fun x _ => by simp
    rw [this, List.nil_append]
  case round =>
    obtain ⟨seen, ds, xs, HR, HM, HP, HX, HJW⟩ := hrel
    rcases run_next_at (P := Tryd.prog) wr 0 W.heap.size b c c seen es c HR.out HM.out HST.out (Nat.le_refl _) with ⟨hz, hrun⟩ | ⟨e, he, w1, hal, hrun⟩
    · gi_wp2
      go_end0
      refine ⟨⟨_, rfl⟩, xs, ?_, HJW.out⟩
      rw [HX.out]
      have : (leftOf es seen).toList = [] := by rw [← List.length_eq_zero_iff]; simpa using hz
      have hp := HP.out
      rw [this, List.append_nil] at hp
      exact hp.map _
    · have hem := left_sub he
      obtain ⟨k, nn, A, ll, cc, hev⟩ := HV.out e hem
      rw [hev] at hrun
      have hgr := grown_set (o' := .mapIter (some b) c (seen.push e.born) c) hal HR.out
      have hr1 : w1.heap[W.heap.size]? = some (.mapIter (some b) c seen c) := by rcases hal with rfl | rfl <;> exact HR.out
      have hr2 : (setBlock w1 W.heap.size (.mapIter (some b) c (seen.push e.born) c)).heap[W.heap.size]? = some (.mapIter (some b) c (seen.push e.born) c) := (MapKept.heap_set hr1).1
      have hm2 : (setBlock w1 W.heap.size (.mapIter (some b) c (seen.push e.born) c)).heap[b]? = some (.map es c) := (hgr.block b (Array.getElem?_eq_some_iff.1 HM.out).1 (by simp; omega)).trans HM.out
      obtain ⟨w2, hw2⟩ : ∃ w2, w2 = setBlock w1 W.heap.size (.mapIter (some b) c (seen.push e.born) c) := ⟨_, rfl⟩
      rw [← hw2] at hrun hgr hr2 hm2
      clear hw2 hr1
      have hent := run_entry_at (P := Tryd.prog) w2 W.heap.size b c seen es c e hr2 hm2 hem HND.out
      rw [hev] at hent
      have hJ2 : J xs w2 := HJ.out xs wr w2 (some W.heap.size) HJW.out hgr (fun r e' => by cases e'; exact ⟨Nat.le_refl _, _, HR.out, rfl⟩)
      have hJ3 : J xs (w2.alloc (.cells #[.int .i64 k, .int .i64 nn, .slice A ll cc] 25)) := HJ.out xs w2 _ none hJ2 (World.grownBy_alloc _ _ _) (fun r e' => by cases e')
      have hlen : xs.length < es.size := by
        have h1 := HP.out.length_eq
        have h2 := congrArg List.length HX.out
        have h3 : 0 < (leftOf es seen).toList.length := List.length_pos_of_mem he
        simp at h1 h2 h3; omega
      have hy0 := HY.out xs ⟨.agg #[.int .i64 k, .int .i64 nn, .slice A ll cc], k, nn, A, ll, cc, rfl⟩ _ hJ3 hlen
      obtain ⟨fn, tmps, assign, body, hy, hR⟩ := hy0
      dsimp only at hy
      have HR2 := Lib.hid hr2
      have HM2 := Lib.hid hm2
      have HE := Lib.hid he
      have HEV := Lib.hid hev
      clear hr2 hm2 hJ2 hJ3 hlen hgr hem he hev hal
      gi_wp2
      refine hR.mono ?_
      rintro e' W3 ⟨rfl, hJ3, hk3⟩
      have HJ3 := Lib.hid hJ3
      have HK3 := Lib.hid hk3
      clear hJ3 hk3
      gi_wp2
      have keep : ∀ (j : Nat) (o : Obj), w2.heap[j]? = some o → o.isWalk = true → W3.heap[j]? = some o := fun j o hj ho => HK3.out.same j o ((Below.heap_alloc _ _ _ (Array.getElem?_eq_some_iff.1 hj).1).trans hj) ho
      go_roundw
      case rel =>
        refine ⟨seen.push e.born, ds ++ [e], _, keep _ _ HR2.out rfl, keep _ _ HM2.out rfl, ?_, ?_, HJ3.out⟩
        · unfold Hid
          rw [left_push]
          refine List.Perm.trans ?_ HP.out
          rw [List.append_assoc]
          exact (perm_left (left_nodup seen HND.out) HE.out).symm.append_left ds
        · unfold Hid; rw [List.map_append, List.map_append, HX.out]; simp [HEV.out]
      case measure =>
        simp only [leftN, HR.out, HM.out, keep _ _ HR2.out rfl, keep _ _ HM2.out rfl]
        have := (perm_left (left_nodup seen HND.out) HE.out).length_eq
        rw [← left_push] at this
        simp at this; omega
end Go.Proofs.YtfhpnkmhppfeiaaDoor
