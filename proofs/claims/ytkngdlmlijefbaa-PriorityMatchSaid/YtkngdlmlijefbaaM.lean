/- Laws on maps whose keys are plain values behind an encoding, and on what a call leaves as it was: plain lemmas over any program. -/
import Derived.WalkKit
import Derived.Below
import Derived.KernelRfl
import Derived.Maps.OwnOps
import Derived.Deep.Draws
set_option linter.unusedSectionVars false
namespace Go.Proofs.Mp
open Go.RowKit
open Go.MapKept (Stamped stamped_push stamped_modify stamped_erase stamped_empty)

/-! ### 1. Frames -/

/-- Outside the blocks S the world w' is as w was. -/
structure Fr (S : Nat → Prop) (w w' : World) : Prop where
  os : w'.os = w.os
  tape : w'.tape = w.tape
  output : w'.output = w.output
  size : w.heap.size ≤ w'.heap.size
  block : ∀ i, i < w.heap.size → ¬ S i → w'.heap[i]? = w.heap[i]?

namespace Fr
variable {S T : Nat → Prop} {w w1 w2 : World}
theorem refl (S : Nat → Prop) (w : World) : Fr S w w := ⟨rfl, rfl, rfl, Nat.le_refl _, fun _ _ _ => rfl⟩
theorem trans (h : Fr S w w1) (k : Fr T w1 w2) (hT : ∀ i, i < w.heap.size → T i → S i) : Fr S w w2 :=
  ⟨k.os.trans h.os, k.tape.trans h.tape, k.output.trans h.output, Nat.le_trans h.size k.size,
    fun i hi hn => (k.block i (Nat.lt_of_lt_of_le hi h.size) (fun ht => hn (hT i hi ht))).trans (h.block i hi hn)⟩
theorem mono (h : Fr S w w1) (hT : ∀ i, i < w.heap.size → S i → T i) : Fr T w w1 :=
  ⟨h.os, h.tape, h.output, h.size, fun i hi hn => h.block i hi (fun hs => hn (hT i hi hs))⟩
theorem of_below (h : Below w.heap.size w w1) : Fr S w w1 := ⟨h.os, h.tape, h.output, h.size, fun i hi _ => h.block i hi⟩
theorem below {B : Nat} (h : Fr S w w1) (hB : B ≤ w.heap.size) (hS : ∀ i, i < B → ¬ S i) : Below B w w1 :=
  ⟨h.os, h.tape, h.output, h.size, fun i hi => h.block i (by omega) (hS i hi)⟩
theorem cell {p : Addr} (h : Fr S w w1) (hp : p.block < w.heap.size) (hS : ¬ S p.block) : w1.cell? p = w.cell? p := World.cell?_of_block (w := w) (h.block p.block hp hS)
theorem frozen {p : Addr} (h : Fr S w w1) (hp : p.block < w.heap.size) (hS : ¬ S p.block) : w1.frozen? p = w.frozen? p := World.frozen?_of_block (w := w) (h.block p.block hp hS)
theorem heap {i : Nat} {o : Obj} (h : Fr S w w1) (ho : w.heap[i]? = some o) (hS : ¬ S i) : w1.heap[i]? = some o :=
  (h.block i (Array.getElem?_eq_some_iff.1 ho).1 hS).trans ho
theorem drew (h : Fr S w w1) : Fr S w w1.drew := ⟨h.os, h.tape, h.output, h.size, h.block⟩
theorem drewN (h : Fr S w w1) (n : Nat) : Fr S w (w1.drewN n) := ⟨h.os, h.tape, h.output, h.size, h.block⟩
theorem alloc (h : Fr S w w1) (o : Obj) : Fr S w (w1.alloc o) :=
  ⟨h.os, h.tape, h.output, by have := h.size; simp; omega, fun i hi hn => (Below.heap_alloc _ _ _ (Nat.lt_of_lt_of_le hi h.size)).trans (h.block i hi hn)⟩
theorem setCell (h : Fr S w w1) {p : Addr} (hp : p.block < w.heap.size → S p.block) (u : Value) : Fr S w (w1.setCell p u) :=
  ⟨h.os, h.tape, h.output, by have := h.size; simp [World.setCell]; omega, fun i hi hn => (Below.heap_setCell _ _ _ _ (fun e => by subst e; exact hn (hp hi))).trans (h.block i hi hn)⟩
theorem grown {row : Option Nat} (h : Fr S w w1) (hg : w1.grownBy w2 row) (hr : ∀ k, row = some k → k < w.heap.size → S k) : Fr S w w2 :=
  ⟨hg.os.trans h.os, hg.tape.trans h.tape, hg.output.trans h.output, Nat.le_trans h.size hg.size,
    fun i hi hn => (hg.block i (Nat.lt_of_lt_of_le hi h.size) (fun e => hn (hr i e.symm hi))).trans (h.block i hi hn)⟩
theorem then_below {w2 : World} (h : Fr S w w1) (k : Below w1.heap.size w1 w2) : Fr S w w2 := h.trans (T := fun _ => False) (of_below k) (fun _ _ h => h.elim)
end Fr

/-! ### 2. Keys -/
section
variable {P : Program} {k : TypeId} {K : Type} {enc : K → Value}

/-- WHAT THE LAWS NEED OF A KEY's TYPE. -/
structure KeyT (P : Program) (k : TypeId) (K : Type) (enc : K → Value) : Prop where
  inj : ∀ {a b : K}, enc a = enc b → a = b
  check : ∀ (em : Bool) (w : World) (a : K), (Instr.checkKey em 10000 k (enc a)).run P w = .ok () w
  stays : ∀ (w : World) (a : K), (Instr.keyThatStays (enc a) (enc a)).run P w = .ok (enc a) w
  find : ∀ (w : World) (a : K) (es : List MapEntry), (∀ e ∈ es, ∃ b, e.key = enc b) →
    ((Instr.findKey k (enc a) es).run P w = .ok none w ∧ ∀ e ∈ es, e.key ≠ enc a) ∨
    ∃ j e, (Instr.findKey k (enc a) es).run P w = .ok (some (j, e.val)) w ∧ es[j]? = some e ∧ e.key = enc a

end

/-! ### 3. A map's entries as a list -/
section
variable {K : Type} [DecidableEq K] {enc : K → Value}

/-- BLOCK mb IS A MAP WITH THE ENTRIES L. -/
def IsMap (enc : K → Value) (w : World) (mb : Nat) (L : List (K × Value)) : Prop :=
  ∃ es clock, w.heap[mb]? = some (.map es clock) ∧ es.toList.map (fun e => (e.key, e.val)) = L.map (fun p => (enc p.1, p.2)) ∧ (L.map (·.1)).Nodup ∧ Stamped es clock

theorem IsMap.lt {w : World} {mb : Nat} {L : List (K × Value)} (h : IsMap enc w mb L) : mb < w.heap.size := by
  obtain ⟨es, clock, h1, _⟩ := h
  exact (Array.getElem?_eq_some_iff.1 h1).1
theorem IsMap.made (w : World) : IsMap enc (w.alloc (.map #[] 0)) w.heap.size ([] : List (K × Value)) :=
  ⟨#[], 0, (MapKept.heap_alloc w _).1, by simp, by simp, stamped_empty 0⟩

/-- What a block is set to, all else as it was. -/
def put (w : World) (mb : Nat) (o : Obj) : World := { w with heap := w.heap.setIfInBounds mb o }
theorem put_heap {w : World} {mb : Nat} {o : Obj} (i : Nat) (h : i ≠ mb) : (put w mb o).heap[i]? = w.heap[i]? := by
  simp only [put, Array.getElem?_setIfInBounds]
  rw [if_neg (fun e => h e.symm)]
theorem put_size {w : World} {mb : Nat} {o : Obj} : (put w mb o).heap.size = w.heap.size := by simp [put]
theorem Fr.put {S : Nat → Prop} {w w1 : World} (h : Fr S w w1) {mb : Nat} (hm : mb < w.heap.size → S mb) (o : Obj) : Fr S w (put w1 mb o) :=
  ⟨h.os, h.tape, h.output, by rw [put_size]; exact h.size, fun i hi hn => (put_heap i (fun e => by subst e; exact hn (hm hi))).trans (h.block i hi hn)⟩

variable {P : Program} {t k el : TypeId} {w : World} {mb : Nat} {L : List (K × Value)}

/-- 'len(m)'. -/
theorem IsMap.len (ht : P.underlying t = some (.map k el)) (h : IsMap enc w mb L) (ats : Array TypeId) (h0 : ats[0]? = some t) (ty : TypeId) :
    (Builtin.len_ ats ty #[.map (some mb)]).run P w = .ok (.int .i64 (L.length : Int)) w := by
  obtain ⟨es, clock, hb, he, hn, hs⟩ := h
  have hl : es.size = L.length := by
    have := congrArg List.length he
    simpa using this
  simp [Builtin.len_, h0, run_underlying ht, MapKept.run_getObj_map hb, Result.andThen, hl, goInt]
end
end Go.Proofs.Mp
