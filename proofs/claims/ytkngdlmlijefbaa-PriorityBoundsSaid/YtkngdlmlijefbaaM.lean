/- Laws on maps whose keys are plain values behind an encoding, and on what a call leaves as it was: plain lemmas over any program. -/
import Derived.WalkKit
import Derived.Below
import Derived.KernelRfl
import Derived.Maps.OwnOps
import Derived.Deep.Draws
set_option linter.unusedSectionVars false
namespace Go.Proofs.Mp
open Go.RowKit
open Go.MapKept (Stamped stamped_push stamped_modify stamped_erase stamped_empty)

/-! ### 1. Frames -/

/-- Outside the blocks S the world w' is as w was. -/
structure Fr (S : Nat → Prop) (w w' : World) : Prop where
  os : w'.os = w.os
  tape : w'.tape = w.tape
  output : w'.output = w.output
  size : w.heap.size ≤ w'.heap.size
  block : ∀ i, i < w.heap.size → ¬ S i → w'.heap[i]? = w.heap[i]?

namespace Fr
variable {S T : Nat → Prop} {w w1 w2 : World}
theorem refl (S : Nat → Prop) (w : World) : Fr S w w := ⟨rfl, rfl, rfl, Nat.le_refl _, fun _ _ _ => rfl⟩
theorem trans (h : Fr S w w1) (k : Fr T w1 w2) (hT : ∀ i, i < w.heap.size → T i → S i) : Fr S w w2 :=
  ⟨k.os.trans h.os, k.tape.trans h.tape, k.output.trans h.output, Nat.le_trans h.size k.size,
    fun i hi hn => (k.block i (Nat.lt_of_lt_of_le hi h.size) (fun ht => hn (hT i hi ht))).trans (h.block i hi hn)⟩
theorem mono (h : Fr S w w1) (hT : ∀ i, i < w.heap.size → S i → T i) : Fr T w w1 :=
  ⟨h.os, h.tape, h.output, h.size, fun i hi hn => h.block i hi (fun hs => hn (hT i hi hs))⟩
theorem of_below (h : Below w.heap.size w w1) : Fr S w w1 := ⟨h.os, h.tape, h.output, h.size, fun i hi _ => h.block i hi⟩
theorem below {B : Nat} (h : Fr S w w1) (hB : B ≤ w.heap.size) (hS : ∀ i, i < B → ¬ S i) : Below B w w1 :=
  ⟨h.os, h.tape, h.output, h.size, fun i hi => h.block i (by omega) (hS i hi)⟩
theorem below0 (h : Fr (fun _ => False) w w1) : Below w.heap.size w w1 := h.below (Nat.le_refl _) (fun _ _ h => h)
theorem cell {p : Addr} (h : Fr S w w1) (hp : p.block < w.heap.size) (hS : ¬ S p.block) : w1.cell? p = w.cell? p := World.cell?_of_block (w := w) (h.block p.block hp hS)
theorem frozen {p : Addr} (h : Fr S w w1) (hp : p.block < w.heap.size) (hS : ¬ S p.block) : w1.frozen? p = w.frozen? p := World.frozen?_of_block (w := w) (h.block p.block hp hS)
theorem heap {i : Nat} {o : Obj} (h : Fr S w w1) (ho : w.heap[i]? = some o) (hS : ¬ S i) : w1.heap[i]? = some o :=
  (h.block i (Array.getElem?_eq_some_iff.1 ho).1 hS).trans ho
theorem drew (h : Fr S w w1) : Fr S w w1.drew := ⟨h.os, h.tape, h.output, h.size, h.block⟩
theorem drewN (h : Fr S w w1) (n : Nat) : Fr S w (w1.drewN n) := ⟨h.os, h.tape, h.output, h.size, h.block⟩
theorem alloc (h : Fr S w w1) (o : Obj) : Fr S w (w1.alloc o) :=
  ⟨h.os, h.tape, h.output, by have := h.size; simp; omega, fun i hi hn => (Below.heap_alloc _ _ _ (Nat.lt_of_lt_of_le hi h.size)).trans (h.block i hi hn)⟩
theorem setCell (h : Fr S w w1) {p : Addr} (hp : p.block < w.heap.size → S p.block) (u : Value) : Fr S w (w1.setCell p u) :=
  ⟨h.os, h.tape, h.output, by have := h.size; simp [World.setCell]; omega, fun i hi hn => (Below.heap_setCell _ _ _ _ (fun e => by subst e; exact hn (hp hi))).trans (h.block i hi hn)⟩
theorem grown {row : Option Nat} (h : Fr S w w1) (hg : w1.grownBy w2 row) (hr : ∀ k, row = some k → k < w.heap.size → S k) : Fr S w w2 :=
  ⟨hg.os.trans h.os, hg.tape.trans h.tape, hg.output.trans h.output, Nat.le_trans h.size hg.size,
    fun i hi hn => (hg.block i (Nat.lt_of_lt_of_le hi h.size) (fun e => hn (hr i e.symm hi))).trans (h.block i hi hn)⟩
theorem then_below {w2 : World} (h : Fr S w w1) (k : Below w1.heap.size w1 w2) : Fr S w w2 := h.trans (T := fun _ => False) (of_below k) (fun _ _ h => h.elim)
end Fr

/-! ### 2. Keys -/
section
variable {P : Program} {k : TypeId} {K : Type} {enc : K → Value}

/-- WHAT THE LAWS NEED OF A KEY's TYPE. -/
structure KeyT (P : Program) (k : TypeId) (K : Type) (enc : K → Value) : Prop where
  inj : ∀ {a b : K}, enc a = enc b → a = b
  check : ∀ (em : Bool) (w : World) (a : K), (Instr.checkKey em 10000 k (enc a)).run P w = .ok () w
  stays : ∀ (w : World) (a : K), (Instr.keyThatStays (enc a) (enc a)).run P w = .ok (enc a) w
  find : ∀ (w : World) (a : K) (es : List MapEntry), (∀ e ∈ es, ∃ b, e.key = enc b) →
    ((Instr.findKey k (enc a) es).run P w = .ok none w ∧ ∀ e ∈ es, e.key ≠ enc a) ∨
    ∃ j e, (Instr.findKey k (enc a) es).run P w = .ok (some (j, e.val)) w ∧ es[j]? = some e ∧ e.key = enc a

theorem asking_spec (heq : ∀ (w : World) (a b : K), ∃ r, (Op.equal k (enc a) (enc b)).run P w = .ok r w ∧ (r = true ↔ a = b)) (hinj : ∀ {a b : K}, enc a = enc b → a = b) (w : World) (a : K) :
    ∀ (es : List MapEntry) (i : Nat), (∀ e ∈ es, ∃ b, e.key = enc b) →
    ((Instr.findAsking k (enc a) es i).run P w = .ok none w ∧ ∀ e ∈ es, e.key ≠ enc a) ∨
    ∃ j e, (Instr.findAsking k (enc a) es i).run P w = .ok (some (i + j, e.val)) w ∧ es[j]? = some e ∧ e.key = enc a
  | [], i, _ => .inl ⟨by simp [Instr.findAsking], by simp⟩
  | e :: es, i, h => by
    obtain ⟨b, hb⟩ := h e (by simp)
    obtain ⟨r, hr, hab⟩ := heq w a b
    cases r with
    | true =>
      refine .inr ⟨0, e, ?_, rfl, by rw [hb, hab.1 rfl]⟩
      simp [Instr.findAsking, hb, hr, Result.andThen]
    | false =>
      have hne : e.key ≠ enc a := fun e1 => by
        rw [hb] at e1
        have := hab.2 (hinj e1).symm
        cases this
      rcases asking_spec heq hinj w a es (i + 1) (fun e' he' => h e' (by simp [he'])) with ⟨h1, h2⟩ | ⟨j, e', h1, h2, h3⟩
      · refine .inl ⟨?_, fun e' he' => ?_⟩
        · simp [Instr.findAsking, hb, hr, Result.andThen, h1]
        · rcases List.mem_cons.1 he' with rfl | he'
          · exact hne
          · exact h2 e' he'
      · refine .inr ⟨j + 1, e', ?_, by simpa using h2, h3⟩
        simp [Instr.findAsking, hb, hr, Result.andThen, h1]
        omega

/-- A key type that is an array or a struct: out of its '=='. -/
theorem KeyT.of_eq (hk : ∀ d, P.underlying k = some d → ∀ a b : K, Instr.sameNow d (enc a) (enc b) = none) (hu : ∃ d, P.underlying k = some d)
    (hinj : ∀ {a b : K}, enc a = enc b → a = b) (hc : ∀ (em : Bool) (w : World) (a : K), (Instr.checkKey em 10000 k (enc a)).run P w = .ok () w)
    (hst : ∀ a : K, Instr.sameBits 10000 (enc a) (enc a) = true)
    (heq : ∀ (w : World) (a b : K), ∃ r, (Op.equal k (enc a) (enc b)).run P w = .ok r w ∧ (r = true ↔ a = b)) : KeyT P k K enc where
  inj := hinj
  check := hc
  stays w a := by simp [Instr.keyThatStays, hst]
  find w a es h := by
    obtain ⟨d, hd⟩ := hu
    cases es with
    | nil => exact .inl ⟨by simp [Instr.findKey, run_underlying hd, Result.andThen, Instr.findNow], by simp⟩
    | cons e r =>
      obtain ⟨b, hb⟩ := h e (by simp)
      have hn : Instr.findNow d (enc a) (e :: r) 0 = none := by simp [Instr.findNow, hb, hk d hd]
      have hrun : (Instr.findKey k (enc a) (e :: r)).run P w = (Instr.findAsking k (enc a) (e :: r) 0).run P w := by
        simp [Instr.findKey, run_underlying hd, Result.andThen, hn]
      rw [hrun]
      rcases asking_spec heq hinj w a (e :: r) 0 h with h1 | ⟨j, e', h1, h2, h3⟩
      · exact .inl h1
      · exact .inr ⟨j, e', by simpa using h1, h2, h3⟩
end

/-! ### 3. A map's entries as a list -/
section
variable {K : Type} [DecidableEq K] {enc : K → Value}

def mget (a : K) : List (K × Value) → Option Value
  | [] => none
  | p :: r => if p.1 = a then some p.2 else mget a r
def mset (a : K) (v : Value) : List (K × Value) → List (K × Value)
  | [] => [(a, v)]
  | p :: r => if p.1 = a then (p.1, v) :: r else p :: mset a v r
def mdel (a : K) : List (K × Value) → List (K × Value)
  | [] => []
  | p :: r => if p.1 = a then r else p :: mdel a r

theorem mget_none {a : K} {L : List (K × Value)} : mget a L = none ↔ ∀ p ∈ L, p.1 ≠ a := by
  induction L with
  | nil => simp [mget]
  | cons p r ih =>
    simp only [mget]
    split
    · rename_i h; simp [h]
    · rename_i h; simp [ih, h]
theorem mget_mem {a : K} {v : Value} {L : List (K × Value)} (h : mget a L = some v) : (a, v) ∈ L := by
  induction L with
  | nil => simp [mget] at h
  | cons p r ih =>
    simp only [mget] at h
    split at h
    · rename_i e; injection h with h; subst h; subst e; simp
    · exact List.mem_cons_of_mem _ (ih h)
theorem mget_of_mem {a : K} {v : Value} {L : List (K × Value)} (hn : (L.map (·.1)).Nodup) (h : (a, v) ∈ L) : mget a L = some v := by
  induction L with
  | nil => simp at h
  | cons p r ih =>
    simp only [List.map_cons, List.nodup_cons] at hn
    rcases List.mem_cons.1 h with rfl | h
    · simp [mget]
    · have hne : p.1 ≠ a := fun e => hn.1 (e ▸ List.mem_map.2 ⟨_, h, rfl⟩)
      simp only [mget, if_neg hne]
      exact ih hn.2 h
theorem mget_mset (a b : K) (v : Value) (L : List (K × Value)) : mget b (mset a v L) = if a = b then some v else mget b L := by
  induction L with
  | nil => simp [mset, mget]
  | cons p r ih =>
    simp only [mset]
    split
    · rename_i e
      subst e
      simp only [mget]
      split <;> rfl
    · rename_i e
      simp only [mget, ih]
      split
      · rename_i e2
        subst e2
        rw [if_neg (fun h => e h.symm)]
      · rfl
theorem mset_keys (a : K) (v : Value) (L : List (K × Value)) : (mset a v L).map (·.1) = if mget a L = none then L.map (·.1) ++ [a] else L.map (·.1) := by
  induction L with
  | nil => simp [mset, mget]
  | cons p r ih =>
    simp only [mset, mget]
    split
    · simp
    · simp only [List.map_cons, ih]
      split <;> simp
theorem mset_nodup {a : K} {v : Value} {L : List (K × Value)} (h : (L.map (·.1)).Nodup) : ((mset a v L).map (·.1)).Nodup := by
  rw [mset_keys]
  split
  · rename_i hn
    rw [List.nodup_append]
    refine ⟨h, by simp, fun x hx y hy => ?_⟩
    simp at hy
    subst hy
    rintro rfl
    obtain ⟨p, hp, rfl⟩ := List.mem_map.1 hx
    exact mget_none.1 hn p hp rfl
  · exact h
theorem mdel_sub (a : K) (L : List (K × Value)) : (mdel a L).Sublist L := by
  induction L with
  | nil => simp [mdel]
  | cons p r ih =>
    simp only [mdel]
    split
    · exact List.sublist_cons_self _ _
    · exact ih.cons_cons _
theorem mdel_nodup {a : K} {L : List (K × Value)} (h : (L.map (·.1)).Nodup) : ((mdel a L).map (·.1)).Nodup := h.sublist ((mdel_sub a L).map _)
theorem mget_mdel (a b : K) {L : List (K × Value)} (hn : (L.map (·.1)).Nodup) : mget b (mdel a L) = if a = b then none else mget b L := by
  induction L with
  | nil => simp [mdel, mget]
  | cons p r ih =>
    simp only [List.map_cons, List.nodup_cons] at hn
    simp only [mdel]
    split
    · rename_i e
      subst e
      split
      · rename_i e2
        subst e2
        exact mget_none.2 (fun q hq e => hn.1 (e ▸ List.mem_map.2 ⟨_, hq, rfl⟩))
      · rename_i e2
        simp [mget, e2]
    · rename_i e
      simp only [mget, ih hn.2]
      split
      · rename_i e2
        subst e2
        rw [if_neg (fun h => e h.symm)]
      · rfl

/-- BLOCK mb IS A MAP WITH THE ENTRIES L. -/
def IsMap (enc : K → Value) (w : World) (mb : Nat) (L : List (K × Value)) : Prop :=
  ∃ es clock, w.heap[mb]? = some (.map es clock) ∧ es.toList.map (fun e => (e.key, e.val)) = L.map (fun p => (enc p.1, p.2)) ∧ (L.map (·.1)).Nodup ∧ Stamped es clock

theorem IsMap.of_block {w w' : World} {mb : Nat} {L : List (K × Value)} (h : IsMap enc w mb L) (hb : w'.heap[mb]? = w.heap[mb]?) : IsMap enc w' mb L := by
  obtain ⟨es, clock, h1, h2⟩ := h
  exact ⟨es, clock, hb.trans h1, h2⟩
theorem IsMap.lt {w : World} {mb : Nat} {L : List (K × Value)} (h : IsMap enc w mb L) : mb < w.heap.size := by
  obtain ⟨es, clock, h1, _⟩ := h
  exact (Array.getElem?_eq_some_iff.1 h1).1
theorem IsMap.nodup {w : World} {mb : Nat} {L : List (K × Value)} (h : IsMap enc w mb L) : (L.map (·.1)).Nodup := by
  obtain ⟨es, clock, _, _, h1, _⟩ := h
  exact h1
theorem IsMap.made (w : World) : IsMap enc (w.alloc (.map #[] 0)) w.heap.size ([] : List (K × Value)) :=
  ⟨#[], 0, (MapKept.heap_alloc w _).1, by simp, by simp, stamped_empty 0⟩

/-- What a block is set to, all else as it was. -/
def put (w : World) (mb : Nat) (o : Obj) : World := { w with heap := w.heap.setIfInBounds mb o }
theorem put_heap {w : World} {mb : Nat} {o : Obj} (i : Nat) (h : i ≠ mb) : (put w mb o).heap[i]? = w.heap[i]? := by
  simp only [put, Array.getElem?_setIfInBounds]
  rw [if_neg (fun e => h e.symm)]
theorem put_size {w : World} {mb : Nat} {o : Obj} : (put w mb o).heap.size = w.heap.size := by simp [put]
theorem Fr.put {S : Nat → Prop} {w w1 : World} (h : Fr S w w1) {mb : Nat} (hm : mb < w.heap.size → S mb) (o : Obj) : Fr S w (put w1 mb o) :=
  ⟨h.os, h.tape, h.output, by rw [put_size]; exact h.size, fun i hi hn => (put_heap i (fun e => by subst e; exact hn (hm hi))).trans (h.block i hi hn)⟩

variable {P : Program} {t k el : TypeId} {w : World} {mb : Nat} {L : List (K × Value)}

theorem entry_at {es : Array MapEntry} (he : es.toList.map (fun e => (e.key, e.val)) = L.map (fun p => (enc p.1, p.2))) {j : Nat} {e : MapEntry} (hj : es.toList[j]? = some e) : ∃ p, L[j]? = some p ∧ e.key = enc p.1 ∧ e.val = p.2 := by
  have h := congrArg (fun l => l[j]?) he
  simp only [List.getElem?_map, hj, Option.map_some] at h
  cases hp : L[j]? with
  | none => simp [hp] at h
  | some p =>
    simp only [hp, Option.map_some, Option.some.injEq, Prod.mk.injEq] at h
    exact ⟨p, rfl, h.1, h.2⟩
theorem entry_keys {es : Array MapEntry} (he : es.toList.map (fun e => (e.key, e.val)) = L.map (fun p => (enc p.1, p.2))) : ∀ e ∈ es.toList, ∃ b, e.key = enc b := by
  intro e h
  obtain ⟨j, hj⟩ := List.mem_iff_getElem?.1 h
  obtain ⟨p, _, h1, _⟩ := entry_at he hj
  exact ⟨p.1, h1⟩

/-- 'm[k]', 'v, ok := m[k]'. -/
theorem IsMap.lookup (T : KeyT P k K enc) (ht : P.underlying t = some (.map k el)) {z : Value} (hz : (zeroValue el).run P w = .ok z w) (h : IsMap enc w mb L) (a : K) (c : Bool) :
    (Instr.lookup t (.map (some mb)) (enc a) c).run P w = .ok (if c then .tuple #[(mget a L).getD z, .bool (mget a L).isSome] else (mget a L).getD z) w := by
  obtain ⟨es, clock, hb, he, hn, hs⟩ := h
  rcases T.find w a es.toList (entry_keys he) with ⟨h1, h2⟩ | ⟨j, e0, h1, h2, h3⟩
  · have hg : mget a L = none := by
      rw [mget_none]
      intro p hp e
      obtain ⟨j, hj⟩ := List.mem_iff_getElem?.1 hp
      have h4 := congrArg (fun l => l[j]?) he
      simp only [List.getElem?_map, hj, Option.map_some, Option.map_eq_some_iff] at h4
      obtain ⟨e1, h5, h6⟩ := h4
      have h7 : e1.key = enc a := by rw [← e]; exact (Prod.mk.inj h6).1
      exact h2 e1 (List.mem_of_getElem? h5) h7
    rw [hg]
    simp [Instr.lookup, run_underlying ht, MapKept.run_getObj_map hb, T.check, h1, hz, Result.andThen]
  · obtain ⟨p, hp, hk, hv⟩ := entry_at he h2
    have hg : mget a L = some e0.val := by
      have : p.1 = a := T.inj (hk.symm.trans h3)
      rw [hv, ← this]
      exact mget_of_mem hn (List.mem_of_getElem? hp)
    rw [hg]
    simp [Instr.lookup, run_underlying ht, MapKept.run_getObj_map hb, T.check, h1, Result.andThen]

theorem mset_new {a : K} {v : Value} (h : mget a L = none) : mset a v L = L ++ [(a, v)] := by
  induction L with
  | nil => simp [mset]
  | cons p r ih =>
    simp only [mget] at h
    split at h
    · cases h
    · rename_i e
      simp [mset, e, ih h]
theorem mset_old {a : K} {v : Value} {j : Nat} {p : K × Value} (hn : (L.map (·.1)).Nodup) (hj : L[j]? = some p) (hp : p.1 = a) : mset a v L = L.modify j (fun p => (p.1, v)) := by
  induction L generalizing j with
  | nil => simp at hj
  | cons q r ih =>
    simp only [List.map_cons, List.nodup_cons] at hn
    cases j with
    | zero =>
      simp at hj
      subst hj
      simp [mset, hp]
    | succ j =>
      simp at hj
      have hne : q.1 ≠ a := fun e => hn.1 (by rw [e, ← hp]; exact List.mem_map.2 ⟨_, List.mem_of_getElem? hj, rfl⟩)
      simp [mset, hne, ih hn.2 hj]
theorem mdel_new {a : K} (h : mget a L = none) : mdel a L = L := by
  induction L with
  | nil => simp [mdel]
  | cons p r ih =>
    simp only [mget] at h
    split at h
    · cases h
    · rename_i e
      simp [mdel, e, ih h]
theorem mdel_old {a : K} {j : Nat} {p : K × Value} (hn : (L.map (·.1)).Nodup) (hj : L[j]? = some p) (hp : p.1 = a) : mdel a L = L.eraseIdx j := by
  induction L generalizing j with
  | nil => simp at hj
  | cons q r ih =>
    simp only [List.map_cons, List.nodup_cons] at hn
    cases j with
    | zero =>
      simp at hj
      subst hj
      simp [mdel, hp]
    | succ j =>
      simp at hj
      have hne : q.1 ≠ a := fun e => hn.1 (by rw [e, ← hp]; exact List.mem_map.2 ⟨_, List.mem_of_getElem? hj, rfl⟩)
      simp [mdel, hne, ih hn.2 hj]

theorem IsMap.get_none {es : Array MapEntry} (he : es.toList.map (fun e => (e.key, e.val)) = L.map (fun p => (enc p.1, p.2))) {a : K} (h2 : ∀ e ∈ es.toList, e.key ≠ enc a) : mget a L = none := by
  rw [mget_none]
  intro p hp e
  obtain ⟨j, hj⟩ := List.mem_iff_getElem?.1 hp
  have h4 := congrArg (fun l => l[j]?) he
  simp only [List.getElem?_map, hj, Option.map_some, Option.map_eq_some_iff] at h4
  obtain ⟨e1, h5, h6⟩ := h4
  have h7 : e1.key = enc a := by rw [← e]; exact (Prod.mk.inj h6).1
  exact h2 e1 (List.mem_of_getElem? h5) h7

/-- 'm[k] = v'. -/
theorem IsMap.update (T : KeyT P k K enc) (ht : P.underlying t = some (.map k el)) (h : IsMap enc w mb L) (a : K) (v : Value) :
    ∃ o, (Instr.mapUpdate t (.map (some mb)) (enc a) v).run P w = .ok () (put w mb o) ∧ IsMap enc (put w mb o) mb (mset a v L) := by
  obtain ⟨es, clock, hb, he, hn, hs⟩ := h
  have hlt : mb < w.heap.size := (Array.getElem?_eq_some_iff.1 hb).1
  rcases T.find w a es.toList (entry_keys he) with ⟨h1, h2⟩ | ⟨j, e0, h1, h2, h3⟩
  · have hg := IsMap.get_none he h2
    refine ⟨.map (es.push ⟨enc a, v, clock⟩) (clock + 1), ?_, es.push ⟨enc a, v, clock⟩, clock + 1, ?_, ?_, mset_nodup hn, stamped_push hs h2⟩
    · simp [Instr.mapUpdate, run_underlying ht, MapKept.run_getObj_map hb, T.check, h1, MapKept.run_setObj_map _ hb, Result.andThen, put]
    · simp [put, hlt]
    · rw [mset_new hg]; simp [he]
  · obtain ⟨p, hp, hk, hv⟩ := entry_at he h2
    have hpa : p.1 = a := T.inj (hk.symm.trans h3)
    have h2' : es[j]? = some e0 := by simpa using h2
    have hm : es.modify j (fun e => { e with key := enc a, val := v }) = es.modify j (fun e => { e with key := enc a, val := v }) := rfl
    refine ⟨.map (es.modify j fun e => { e with key := enc a, val := v }) clock, ?_, es.modify j fun e => { e with key := enc a, val := v }, clock, ?_, ?_, mset_nodup hn, ?_⟩
    · simp [Instr.mapUpdate, run_underlying ht, MapKept.run_getObj_map hb, T.check, h1, h2', h3, T.stays, MapKept.run_setObj_map _ hb, Result.andThen, put]
    · simp [put, hlt]
    · rw [mset_old hn hp hpa, Array.toList_modify]
      apply List.ext_getElem?
      intro i
      have hi := congrArg (fun l => l[i]?) he
      simp only [List.getElem?_map] at hi
      simp only [List.getElem?_map, List.getElem?_modify]
      by_cases hij : j = i
      · subst hij
        simp [h2, hp, hpa]
      · have e1 : ∀ {α : Type} (o : Option α), (fun a => a) <$> o = o := fun o => by cases o <;> rfl
        simp only [if_neg hij]
        rw [e1, e1]
        exact hi
    · refine stamped_modify hs j _ (fun e _ => rfl) (fun e _ hje => ?_)
      rw [h2'] at hje
      injection hje with hje
      subst hje
      exact h3.symm

/-- 'delete(m, k)'. -/
theorem IsMap.delete (T : KeyT P k K enc) (ht : P.underlying t = some (.map k el)) (h : IsMap enc w mb L) (a : K) (ats : Array TypeId) (h0 : ats[0]? = some t) (ty : TypeId) :
    ∃ o, (Builtin.delete_ ats ty #[.map (some mb), enc a]).run P w = .ok (.tuple #[]) (put w mb o) ∧ IsMap enc (put w mb o) mb (mdel a L) := by
  obtain ⟨es, clock, hb, he, hn, hs⟩ := h
  have hlt : mb < w.heap.size := (Array.getElem?_eq_some_iff.1 hb).1
  rcases T.find w a es.toList (entry_keys he) with ⟨h1, h2⟩ | ⟨j, e0, h1, h2, h3⟩
  · have hg := IsMap.get_none he h2
    refine ⟨.map es clock, ?_, es, clock, ?_, ?_, mdel_nodup hn, hs⟩
    · simp [Builtin.delete_, h0, run_underlying ht, MapKept.run_getObj_map hb, T.check, h1, MapKept.run_setObj_map _ hb, Result.andThen, put]
    · simp [put, hlt]
    · rw [mdel_new hg]; exact he
  · obtain ⟨p, hp, hk, hv⟩ := entry_at he h2
    have hpa : p.1 = a := T.inj (hk.symm.trans h3)
    refine ⟨.map (es.eraseIdxIfInBounds j) clock, ?_, es.eraseIdxIfInBounds j, clock, ?_, ?_, mdel_nodup hn, stamped_erase hs j⟩
    · simp [Builtin.delete_, h0, run_underlying ht, MapKept.run_getObj_map hb, T.check, h1, MapKept.run_setObj_map _ hb, Result.andThen, put]
    · simp [put, hlt]
    · have hjl : j < es.size := by
        have := (List.getElem?_eq_some_iff.1 h2).1
        simpa using this
      rw [mdel_old hn hp hpa, Array.eraseIdxIfInBounds, dif_pos hjl, Array.toList_eraseIdx, ChangeMaps.map_eraseIdx, ChangeMaps.map_eraseIdx, he]

/-- 'len(m)'. -/
theorem IsMap.len (ht : P.underlying t = some (.map k el)) (h : IsMap enc w mb L) (ats : Array TypeId) (h0 : ats[0]? = some t) (ty : TypeId) :
    (Builtin.len_ ats ty #[.map (some mb)]).run P w = .ok (.int .i64 (L.length : Int)) w := by
  obtain ⟨es, clock, hb, he, hn, hs⟩ := h
  have hl : es.size = L.length := by
    have := congrArg List.length he
    simpa using this
  simp [Builtin.len_, h0, run_underlying ht, MapKept.run_getObj_map hb, Result.andThen, hl, goInt]
end
end Go.Proofs.Mp
