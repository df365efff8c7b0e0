/- slices.SortFunc over valid tasks. -/
import Derived.Test.YtkngdlmlijefbaaTF
import Derived.Test.YtkngdlmlijefbaaTH
import Derived.Test.YtkngdlmlijefbaaO
import Derived.Shelf.Lay
import Derived.Ground.SlsfProg
namespace Go.Proofs
open Go.Shelf
shelf_lay_g SlLaysF0.n6 Slsf 6 at Try 49 as Ytkngdlmlijefbaa.sortL
end Go.Proofs
namespace Go.Proofs.Ytkngdlmlijefbaa.Pq
open Go.RowKit Go.Proofs.YtkngdlmlijefbaaW.PrintWords Go.Proofs.YtkngdlmlijefbaaW.PrintLast Go.Proofs.YtkngdlmlijefbaaW.PrintMore Go.Proofs.Mp
open Go.Proofs.Ytkngdlmlijefbaa.PPriorityOrder
set_option linter.unusedVariables false
set_option linter.unusedSimpArgs false

def tcs (a : S32) : List Value := [.string a.f0.f0, .int .i64 a.f0.f1, .int .i64 a.f1, .int .i64 a.f2, .int .i64 a.f3.f0, .int .i64 a.f3.f1, .int .i64 a.f4]
theorem tcs_len (a : S32) : (tcs a).length = 7 := rfl
def tflat (l : List S32) : List Value := l.flatMap tcs
theorem tflat_cons (a : S32) (l : List S32) : tflat (a :: l) = tcs a ++ tflat l := rfl
theorem tflat_nil : tflat [] = [] := rfl
theorem tflat_app (l m : List S32) : tflat (l ++ m) = tflat l ++ tflat m := List.flatMap_append
theorem tflat_len : ∀ l : List S32, (tflat l).length = l.length * 7
  | [] => rfl
  | a :: l => by rw [tflat_cons, List.length_append, tflat_len l, tcs_len, List.length_cons]; omega
theorem tflat_get : ∀ (l : List S32) (i c : Nat) (a : S32), l[i]? = some a → c < 7 → (tflat l)[i * 7 + c]? = (tcs a)[c]?
  | [], i, c, a, h, _ => by simp at h
  | b :: l, 0, c, a, h, hc => by
    simp at h
    subst h
    rw [tflat_cons, List.getElem?_append_left (by rw [tcs_len]; omega)]
    simp
  | b :: l, i + 1, c, a, h, hc => by
    have ih := tflat_get l i c a (by simpa using h) hc
    rw [tflat_cons, List.getElem?_append_right (by rw [tcs_len]; omega), tcs_len, show (i + 1) * 7 + c - 7 = i * 7 + c from by omega]
    exact ih
theorem tflat_take : ∀ (l : List S32) (i : Nat), (tflat l).take (i * 7) = tflat (l.take i)
  | l, 0 => by simp [tflat]
  | [], i + 1 => by simp [tflat]
  | q :: l, i + 1 => by
    have ih := tflat_take l i
    rw [tflat_cons, List.take_succ_cons, tflat_cons, List.take_append, tcs_len, show (i + 1) * 7 - 7 = i * 7 from by omega, ih, List.take_of_length_le (by rw [tcs_len]; omega)]
theorem tflat_ext {xs : List Value} {l : List S32} (hx : xs.length = l.length * 7) (h : ∀ i a, l[i]? = some a → ∀ c, c < 7 → xs[i * 7 + c]? = (tcs a)[c]?) : xs = tflat l := by
  apply List.ext_getElem?
  intro t
  by_cases ht : t < l.length * 7
  · have hi : t / 7 < l.length := by omega
    have e := h (t / 7) _ (List.getElem?_eq_getElem hi) (t % 7) (by omega)
    have e2 := tflat_get l (t / 7) (t % 7) _ (List.getElem?_eq_getElem hi) (by omega)
    rw [show t / 7 * 7 + t % 7 = t from by omega] at e e2
    rw [e, e2]
  · rw [List.getElem?_eq_none (by omega), List.getElem?_eq_none (by rw [tflat_len]; omega)]
/-- Block g is a row of the tasks l, with room for cap. -/
def OwnT (w : World) (g cap : Nat) (l : List S32) : Prop := ∃ cur, w.heap[g]? = some (.cells cur 32 (0, 0)) ∧ l.length ≤ cap ∧ cap ≤ maxLen ∧ cur.size = cap * 7 ∧ cur.toList.take (l.length * 7) = tflat l
theorem OwnT.lt {w : World} {g cap : Nat} {l : List S32} (h : OwnT w g cap l) : g < w.heap.size := by
  obtain ⟨cur, h1, _⟩ := h
  exact blk_lt h1
theorem OwnT.cell {w : World} {g cap : Nat} {l : List S32} (h : OwnT w g cap l) {i c : Nat} {a : S32} (hi : l[i]? = some a) (hc : c < 7) : w.cell? ⟨g, i * 7 + c, none⟩ = (tcs a)[c]? := by
  obtain ⟨cur, h1, h2, h3, h4, h5⟩ := h
  have hl : i < l.length := (List.getElem?_eq_some_iff.1 hi).1
  rw [blk_cell h1, ← Array.getElem?_toList, ← tflat_get l i c a hi hc, ← h5, List.getElem?_take, if_pos (by omega)]
theorem OwnT.frozen {w : World} {g cap : Nat} {l : List S32} (h : OwnT w g cap l) (j : Nat) : w.frozen? ⟨g, j, none⟩ = false := by
  obtain ⟨cur, h1, _⟩ := h
  exact blk_frozen h1 _
theorem OwnT.move {w w1 : World} {g cap : Nat} {l : List S32} (h : OwnT w g cap l) (hm : w1.heap[g]? = w.heap[g]?) : OwnT w1 g cap l := by
  obtain ⟨cur, h1, r⟩ := h
  exact ⟨cur, hm.trans h1, r⟩
theorem OwnT.below {w w1 : World} {g cap : Nat} {l : List S32} (h : OwnT w g cap l) (hb : Below w.heap.size w w1) : OwnT w1 g cap l := h.move (hb.block g h.lt)
theorem reps_flat {W : World} {base : Nat} {ok : Nat → Prop} {l : List S32} {xs : List Value} (h : Reps (k32.M W base ok) 7 l xs) : xs = tflat l := by
  refine tflat_ext h.1 fun i a hi c hc => ?_
  have e := k32_openM (h.2 i a hi)
  have e2 : ((xs.drop (i * 7)).take 7)[c]? = (tcs a)[c]? := by rw [e]; rfl
  rw [List.getElem?_take, if_pos hc, List.getElem?_drop] at e2
  exact e2
theorem flat_reps (W : World) (base : Nat) (ok : Nat → Prop) (l : List S32) : Reps (k32.M W base ok) 7 l (tflat l) := by
  refine ⟨tflat_len l, fun i a hi => ?_⟩
  have e : ((tflat l).drop (i * 7)).take 7 = tcs a := by
    apply List.ext_getElem?
    intro c
    by_cases hc : c < 7
    · rw [List.getElem?_take, if_pos hc, List.getElem?_drop]
      exact tflat_get l i c a hi hc
    · rw [List.getElem?_take, if_neg hc, List.getElem?_eq_none (by rw [tcs_len]; omega)]
  rw [e]
  exact k32_mkM W base ok a
theorem OwnT.of_R {w : World} {base : Nat} {ok : Nat → Prop} {v : Value} {l : List S32} (h : Kd.R k32 32 w base ok v l) (hn : v ≠ .slice none 0 0) : ∃ g cap, v = .slice (some ⟨g, 0, none⟩) l.length cap ∧ base ≤ g ∧ OwnT w g cap l := by
  obtain ⟨_, inner, ho, hr⟩ := h
  rcases ho.2 with ⟨h0, _⟩ | ⟨g, cap, cur, hv, hg, hh, h1, h2, h3, h4⟩
  · exact absurd h0 hn
  · exact ⟨g, cap, hv, hg, cur, hh, h1, h2, h3, h4.trans (reps_flat hr)⟩
theorem OwnT.to_R {w : World} {base g cap : Nat} {l : List S32} {ok : Nat → Prop} (h : OwnT w g cap l) (hb : base ≤ g) (hok : ok g) : Kd.R k32 32 w base ok (.slice (some ⟨g, 0, none⟩) l.length cap) l := by
  obtain ⟨cur, hh, h1, h2, h3, h4⟩ := h
  refine ⟨fun k hk => ?_, tflat l, ⟨tflat_len l, .inr ⟨g, cap, cur, rfl, hb, hh, h1, h2, h3, h4⟩⟩, flat_reps _ _ _ _⟩
  have : g = k := by simpa [Value.ownBlock] using hk
  exact this ▸ hok
instance : Inhabited VT := ⟨⟨⟨z28, 0, 0, ⟨0, 1⟩, 0⟩, ⟨⟨by decide, by decide⟩, by decide, by decide⟩⟩⟩
def encV (x : VT) : List Value := tcs x.1
theorem pszV (w : World) (g n : Nat) (d : Array VT) : (Sort.putRowK encV 7 (Sort.ahead w n) g 0 d).heap.size = w.heap.size := by
  unfold Sort.putRowK
  rw [Sort.size_putRow]
  rfl
theorem grownBy_V {w : World} {g n : Nat} {os : Array Obj} (d : Array VT) : w.grownBy (Sort.grow (Sort.putRowK encV 7 (Sort.ahead w n) g 0 d) os) (some g) := by
  refine ⟨rfl, rfl, rfl, by rw [Sort.size_grow, pszV]; omega, fun k hk hne => ?_⟩
  rw [Sort.heap_grow_old _ _ (by rw [pszV]; exact hk)]
  have : g ≠ k := fun e => hne (by rw [e])
  simp [Sort.putRowK, Sort.putRow, Sort.mapBlock, Sort.ahead, Array.getElem?_modify, this]
theorem heapV {w : World} {g n : Nat} {os : Array Obj} {cur : Array Value} (d : Array VT) (hb : w.heap[g]? = some (.cells cur 32 (0, 0))) :
    (Sort.grow (Sort.putRowK encV 7 (Sort.ahead w n) g 0 d) os).heap[g]? = some (.cells (Sort.putCells id 0 (Sort.flatK encV 7 d) cur) 32 (0, 0)) := by
  have hg : g < w.heap.size := (Array.getElem?_eq_some_iff.1 hb).1
  rw [Sort.heap_grow_old _ _ (by rw [pszV]; exact hg)]
  simp [Sort.putRowK, Sort.putRow, Sort.mapBlock, Sort.ahead, Array.getElem?_modify, hb, Sort.onCells]
theorem isAgg32 (w : World) : (isAgg 32).run Try.prog w = .ok true w := by kernel_rfl
theorem size32 (w : World) : (Go.sizeOf 32).run Try.prog w = .ok 7 w := by kernel_rfl
set_option maxHeartbeats 1000000 in
/-- slices.SortFunc over valid tasks. -/
theorem sortT (g cap : Nat) (L : List VT) (w : World) (h : OwnT w g cap (L.map (·.1))) (hlen : L.length ≤ 1000) :
    Calls Try.prog 49 #[.slice (some ⟨g, 0, none⟩) L.length cap, .func (.func 23) #[] #[]] w fun e w' => e = .returned (.tuple #[]) ∧ ∃ ys : List VT, ys.Perm L ∧ (∀ i j : Nat, (hij : i < j) → (hj : j < ys.length) → cmpT (ys[i]'(by omega)).1 (ys[j]).1 ≤ 0) ∧
      OwnT w' g cap (ys.map (·.1)) ∧ Fr (fun i => i = g) w w' := by
  have hgl := h.lt
  have hH : Sort.HoldsK encV 7 w g 0 L.toArray := fun t ht => by
    have ht2 : t < L.length * 7 := by simpa using ht
    have hd : L.toArray.size = L.length := by simp
    refine ⟨?_, h.frozen _⟩
    rw [Sort.get_flatK _ _ _ _ (by rw [hd]; exact ht2), Nat.zero_add]
    have hi : t / 7 < L.length := by omega
    have h1 := h.cell (i := t / 7) (c := t % 7) (a := (L[t / 7]).1) (by simp [hi]) (by omega)
    rw [show t / 7 * 7 + t % 7 = t from by omega] at h1
    rw [h1]
    have e1 : L.toArray[t / 7]! = L[t / 7] := by simp [hi]
    rw [e1]
    have h7 : t % 7 < (tcs (L[t / 7]).1).length := by rw [tcs_len]; omega
    rw [List.getElem?_eq_getElem h7]
    show _ = some ((encV L[t / 7])[t % 7]!)
    rw [List.getElem!_eq_getElem?_getD]
    show _ = some (((tcs (L[t / 7]).1)[t % 7]?).getD default)
    rw [List.getElem?_eq_getElem h7]
    rfl
  have eg : ∀ args w, (callFunc 23 args).run Try.prog w = .ok (.enter 23 args) w := enters_of Try.func23 (by kernel_rfl) rfl
  have hcmp : CmpLays Try.prog 23 #[] encV 7 (fun x y : VT => cmpT x.1 y.1) g 0 L.toArray.size w := fun m os dk hs x y => Compare_exact x.1 y.1 _
  have hS := AnyQ.slices_SortFunc Ytkngdlmlijefbaa.sortL 7 isAgg32 size32 encV (fun _ => rfl) (fun x v hv => by simp [encV, tcs] at hv; rcases hv with rfl | rfl | rfl | rfl | rfl | rfl | rfl <;> rfl) (fun x y : VT => cmpT x.1 y.1) Cmp.task.swo 23 #[] g 0 cap L.toArray w eg hcmp hH hgl (by simp; omega)
  have hsz0 : L.toArray.size = L.length := by simp
  rw [hsz0] at hS
  change Calls Try.prog 49 _ _ _ at hS
  refine hS.mono ?_
  rintro e w' ⟨rfl, d', n, os, ⟨hp1, _, hp2⟩, hs, rfl⟩
  have hl' : d'.size = L.length := by rw [hp1]; simp
  have hperm : d'.toList.Perm L := by
    have e1 : d'.extract 0 L.length = d' := by rw [← hl', Array.extract_size]
    rw [e1, ← hsz0, Array.extract_size] at hp2
    exact hp2
  refine ⟨rfl, d'.toList, hperm, fun i j hij hj => ?_, ?_, ?_⟩
  · have hj2 : j < d'.size := by simpa using hj
    have h1 := hs i j (Nat.zero_le _) hij (by omega)
    have e1 : d'[i]! = d'[i]'(by omega) := by simp [show i < d'.size from by omega]
    have e2 : d'[j]! = d'[j] := by simp [hj2]
    rw [e1, e2] at h1
    have h2 : ¬ (cmpT (d'[j]).1 (d'[i]'(by omega)).1 < 0) := of_decide_eq_false h1
    have h3 := Cmp.task.anti d'[j] (d'[i]'(by omega))
    simp only [Array.getElem_toList]
    omega
  · obtain ⟨cur, h1, h2, h3, h4, h5⟩ := h
    simp only [List.length_map] at h2 h5
    refine ⟨_, heapV d' h1, by simp [hl', h2], h3, by simp [Sort.putCells, h4], ?_⟩
    have hcs : L.length * 7 ≤ cur.size := by omega
    rw [List.length_map, Array.length_toList, hl']
    refine tflat_ext (by simp [Sort.putCells, hl', h4]; omega) fun i a hi c hc => ?_
    have hi' : i < L.length := by
      have := (List.getElem?_eq_some_iff.1 hi).1
      simpa [hl'] using this
    have ha : a = (d'[i]'(by omega)).1 := by
      have := (List.getElem?_eq_some_iff.1 hi).2
      simpa using this.symm
    have hic : i * 7 + c < L.length * 7 := by omega
    rw [List.getElem?_take, if_pos hic, Array.getElem?_toList]
    have hfs : (Sort.flatK encV 7 d').size = L.length * 7 := by simp [hl']
    have hgf := Sort.get_flatK encV 7 d' (i * 7 + c) (by rw [hl']; exact hic)
    rw [show (i * 7 + c) / 7 = i from by omega, show (i * 7 + c) % 7 = c from by omega] at hgf
    have e0 : d'[i]! = d'[i]'(by omega) := by simp [show i < d'.size from by omega]
    rw [e0] at hgf
    have e3 : (Sort.putCells id 0 (Sort.flatK encV 7 d') cur)[i * 7 + c]? = some ((Sort.flatK encV 7 d')[i * 7 + c]!) := by
      have : i * 7 + c < cur.size := by omega
      simp [Sort.putCells, Array.getElem?_mapIdx, this, hfs, hic]
    rw [e3, hgf, ha]
    have h7 : c < (tcs (d'[i]'(by omega)).1).length := by rw [tcs_len]; omega
    rw [List.getElem?_eq_getElem h7, List.getElem!_eq_getElem?_getD]
    show some (((tcs (d'[i]'(by omega)).1)[c]?).getD default) = _
    rw [List.getElem?_eq_getElem h7]
    rfl
  · exact (Fr.refl _ w).grown (grownBy_V (w := w) (g := g) (n := n) (os := os) d') (fun k hk _ => (Option.some.inj hk).symm)
end Go.Proofs.Ytkngdlmlijefbaa.Pq
