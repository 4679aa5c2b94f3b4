/- The library's contracts in the words of this proof; regions that draw their order and whose calls make memory. -/
import Derived.Test.YtfhpnkmhppfeiaaDoorBase
import Derived.Test.YtfhpnkmhppfeiaaDoorShelf
import Derived.Deep.QuietTactic
import Derived.BigQuiet
import Derived.Deep.RegionHeld3
set_option linter.unusedVariables false
set_option linter.unusedSimpArgs false
namespace Go.Proofs.YtfhpnkmhppfeiaaDoor
open Go.RowKit Go.Proofs

/-- The library's table of powers of ten is as its text lays it. -/
def Tab (w : World) : Prop := Lib.TabIs Tryd.prog w "internal/strconv.uint64pow10" .u64 Lib.pow10Tab
theorem tabNo : ∃ g, Tryd.prog.globalNamed "internal/strconv.uint64pow10" = some g := by
  refine ⟨(Tryd.prog.globalNamed "internal/strconv.uint64pow10").getD 0, ?_⟩
  have : (Tryd.prog.globalNamed "internal/strconv.uint64pow10").isSome = true := by kernel_rfl
  revert this
  cases Tryd.prog.globalNamed "internal/strconv.uint64pow10" <;> simp
theorem Tab.bel {w w' : World} (h : Tab w) (hb : Below w.heap.size w w') : Tab w' := by
  obtain ⟨g, hg⟩ := tabNo
  have hlt : g < w.heap.size := by
    have h' := h
    unfold Tab Lib.TabIs World.var? at h'
    simp only [hg, Option.bind_some] at h'
    cases hh : w.heap[g]? with
    | none => rw [hh] at h'; simp at h'
    | some o => exact (Array.getElem?_eq_some_iff.1 hh).1
  exact var?_below hb hg hlt h
theorem itoa_any (n : Int) (hn : i64 n) (w : World) (ht : Tab w) : Calls Tryd.prog 48 #[.int .i64 n] w fun e w' => e = .returned (.string ⟨(Lib.itoa n).toArray⟩) ∧ Below w.heap.size w w' := by
  refine (Tryd.strconv_Itoa n hn.1 hn.2 w ht).mono ?_
  rintro e w' ⟨rfl, k, os, rfl⟩
  refine ⟨rfl, ?_⟩
  have hd : Below w.heap.size w (w.drewN k) := by
    induction k with
    | zero => exact Below.refl _ _
    | succ k ih => rw [← World.drew_drewN]; exact ih.drew
  refine hd.trans ⟨rfl, rfl, rfl, ?_, fun i hi => ?_⟩
  · show (w.drewN k).heap.size ≤ ((w.drewN k).heap ++ os).size
    simp
  · have : i < (w.drewN k).heap.size := Nat.lt_of_lt_of_le hi hd.size
    show ((w.drewN k).heap ++ os)[i]? = _
    rw [Array.getElem?_append_left this]
/-- A list of strings in a row. -/
def strs (l : List Bs) : List Value := l.map fun s => .string ⟨s.toArray⟩
theorem join_any {base : Nat} {v : Value} {n : Nat} (l : List Bs) (w : World) (h : w.ownsRow base 9 1 v n (strs l)) (hl : l.length ≤ 1000) (hlen : (Lib.join l [44]).length ≤ 140737488355328) :
    Calls Tryd.prog 61 #[v, .string ⟨#[44]⟩] w fun e w' => e = .returned (.string ⟨(Lib.join l [44]).toArray⟩) ∧ Below w.heap.size w w' := by
  have hn : l.length = n := by have := h.1; simpa [strs] using this
  rcases h.2 with ⟨rfl, rfl⟩ | ⟨g, cap, cur, rfl, hb, hh, hc1, hc2, hcur, htake⟩
  · obtain rfl : l = [] := List.length_eq_zero_iff.1 hn
    refine (Tryd.strings_Join_none none 0 _ w).mono ?_
    rintro e w' ⟨rfl, rfl⟩
    exact ⟨rfl, Below.refl _ _⟩
  · subst hn
    have := Tryd.strings_Join g 0 cap (l.map fun s => ⟨s.toArray⟩) ⟨#[44]⟩ w ?_ (Array.getElem?_eq_some_iff.1 hh).1 (by simp; omega) (by simpa using hc1) ?_
    · simp only [List.length_map] at this
      refine this.mono ?_
      rintro e w' ⟨rfl, hb⟩
      refine ⟨?_, hb⟩
      simp [List.map_map, Function.comp_def]
    · intro j x hx
      have e : (strs l)[j]? = some (.string x) := by
        simp only [List.getElem?_map] at hx
        simp only [strs, List.getElem?_map]
        cases hj : l[j]? with
        | none => rw [hj] at hx; simp at hx
        | some y => rw [hj] at hx; simp at hx; subst hx; rfl
      have hc := h.cells (g := g) rfl j _ e
      have ea : (⟨g, 0, none⟩ : Addr).add j = ⟨g, 0 + j, none⟩ := by
        unfold Addr.add
        split
        · rename_i h0; subst h0; rfl
        · rfl
      rw [← ea]; exact hc
    · simpa [List.map_map, Function.comp_def] using hlen
theorem own_bel {w w1 : World} {base : Nat} {e : TypeId} {size : Nat} {v : Value} {n : Nat} {xs : List Value} (h : w.ownsRow base e size v n xs) (hb : Below w.heap.size w w1) : w1.ownsRow base e size v n xs :=
  h.kept (⟨hb.os, hb.tape, hb.output, hb.size, fun i hi _ => hb.block i hi⟩ : w.grownBy w1 none) (by cases v.ownBlock <;> simp)
theorem own_base {w : World} {base : Nat} {e : TypeId} {size n : Nat} {v : Value} {xs : List Value} (h : w.ownsRow base e size v n xs) (k : Nat) (hk : v.ownBlock = some k) : base ≤ k := (h.lt k hk).1
theorem own_form {w : World} {base : Nat} {e : TypeId} {size n : Nat} {v : Value} {xs : List Value} (h : w.ownsRow base e size v n xs) : ∃ A c, v = .slice A n c ∧ n ≤ c ∧ c ≤ 9223372036854775807 := by
  rcases h.2 with ⟨rfl, rfl⟩ | ⟨g, cap, cur, rfl, hb, hh, hc1, hc2, _⟩
  · exact ⟨none, 0, rfl, Nat.le_refl _, by omega⟩
  · exact ⟨_, cap, rfl, hc1, hc2⟩

theorem bcall {n : Nat} {W2 wr w1 : World} {o1 : Obj} (hb : Below n W2 wr) (hs : n ≤ W2.heap.size) (hb1 : Below (wr.alloc o1).heap.size (wr.alloc o1) w1) : Below n W2 w1 ∧ n ≤ w1.heap.size := by
  have h0 := hb.size
  have h1 := hb1.size
  have h2 : (wr.alloc o1).heap.size = wr.heap.size + 1 := World.size_alloc _ _
  exact ⟨(hb.alloc (by omega) _).trans (hb1.mono (by omega)), by omega⟩
theorem bgrow {n : Nat} {W2 w1 w2 : World} {o2 : Obj} {row : Option Nat} (hb : Below n W2 w1) (hs : n ≤ w1.heap.size) (hg : (w1.alloc o2).grownBy w2 row) (hr : ∀ k, row = some k → n ≤ k) : Below n W2 w2 := by
  have h2 : (w1.alloc o2).heap.size = w1.heap.size + 1 := World.size_alloc _ _
  exact (hb.alloc hs _).grown hg (by omega) hr
theorem bs_append (x y : Bs) : (⟨x.toArray⟩ : ByteArray) ++ ⟨y.toArray⟩ = ⟨(x ++ y).toArray⟩ := by
  apply ByteArray.ext
  simp
theorem bs_toList (x : Bs) : (⟨x.toArray⟩ : ByteArray).toList = x := by simp [ByteArray.toList_eq]
theorem bs_size (x : Bs) : (⟨x.toArray⟩ : ByteArray).size = x.length := by simp [ByteArray.size]

/-! ### quiet in all later worlds -/
def Later (n : Nat) (w : World) : Type := { w' : World // Below n w w' }
def Later.w {n : Nat} {w : World} (x : Later n w) : World := x.1
instance Later.some_ {n : Nat} {w : World} : Nonempty (Later n w) := ⟨⟨w, Below.refl _ _⟩⟩
theorem Later.cell {n : Nat} {w : World} (x : Later n w) {a : Addr} {v : Value} (h : w.cell? a = some v) (ha : a.block < n) : x.w.cell? a = some v := (x.2.cell ha).trans h
theorem later_all {n : Nat} {w : World} {Q : World → Prop} (h : ∀ w', Below n w w' → Q w') : ∀ x : Later n w, Q x.w := fun x => h x.1 x.2
theorem wp_region_later {ops : List Oper} {id : Nat} {Q : Exit → Act → World → Prop} {a : Act} {w : World} (n : Nat) (hB : Region.lexB .any ops.toArray = true)
    (h : wpQuiet Tryd.prog ops.toArray (fun w' => ∃ x : Later n w, w' = x.w) (fun a' => ∀ x : Later n w, Q .normal a' x.w) ops a) : (Code.region id ops.toArray true).wp Tryd.prog Q a w := by
  refine wp_region_quiet (C := fun w' => ∃ x : Later n w, w' = x.w) (by kernel_rfl) hB ⟨⟨w.drew, (Below.refl _ _).drew⟩, rfl⟩ ?_
  have e : (fun a' => ∀ w', (∃ x : Later n w, w' = x.w) → Q .normal a' w') = fun a' => ∀ x : Later n w, Q .normal a' x.w := by
    funext a'
    exact propext ⟨fun h x => h _ ⟨x, rfl⟩, fun h w' ⟨x, e⟩ => e ▸ h x⟩
  rw [e]
  simpa using h
theorem later_call {f : FuncId} {args : Array Value} {n : Nat} {w : World} {x : Later n w} {v : Value} (h : Calls Tryd.prog f args x.w fun e w' => e = .returned v ∧ Below x.w.heap.size x.w w') (hn : n ≤ w.heap.size) :
    Calls Tryd.prog f args x.w fun e w'' => e = .returned v ∧ ∃ y : Later n w, w'' = y.w :=
  h.mono fun _ w'' ⟨he, hb⟩ => ⟨he, ⟨w'', x.2.trans (hb.mono (Nat.le_trans hn x.2.size))⟩, rfl⟩
theorem Tab.later {w W : World} {n : Nat} (h : Tab w) (hb : Below w.heap.size w W) (hn : w.heap.size ≤ n) (x : Later n W) : Tab x.w := h.bel (hb.trans (x.2.mono hn))
theorem FormsAt.later {w W : World} {n m : Nat} (h : FormsAt w m) (hb : Below w.heap.size w W) (hn : w.heap.size ≤ n) (x : Later n W) : FormsAt x.w m := h.bel (hb.trans (x.2.mono hn))
theorem TR.later {w W : World} {D : Nat → Prop} {n : Nat} {t : Tm} {v : Value} (h : TR w D t v) (hb : Below w.heap.size w W) (hn : w.heap.size ≤ n) (x : Later n W) : TR x.w D t v := h.bel (hb.trans (x.2.mono hn))
theorem TS.later {w W : World} {D : Nat → Prop} {n : Nat} {t : List Tm} {v : Value} (h : TS w D t v) (hb : Below w.heap.size w W) (hn : w.heap.size ≤ n) (x : Later n W) : TS x.w D t v := h.bel (hb.trans (x.2.mono hn))
theorem Later.bel {w W : World} {n : Nat} (x : Later n W) (hb : Below w.heap.size w W) (hn : w.heap.size ≤ n) : Below w.heap.size w x.w := hb.trans (x.2.mono hn)
end Go.Proofs.YtfhpnkmhppfeiaaDoor
