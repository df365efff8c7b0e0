/- 'm[k] = append(m[k], x)': the entry is found once. -/
import Derived.Test.YtkbiggmkjbmgoaaD
import Derived.WideKeyEntry
import Derived.Test.YtkbiggmkjbmgoaaO
import Derived.Test.YtkbiggmkjbmgoaaWLast
namespace Go.Proofs.Ytkbiggmkjbmgoaa.Bk
open Go.RowKit Go.Proofs.YtkbiggmkjbmgoaaW.PrintWords Go.Proofs.Mp
set_option linter.unusedVariables false
set_option linter.unusedSimpArgs false

section
variable {P : Program} {k : TypeId} {K : Type} {enc : K → Value} {w : World} {mb : Nat} {L : List (K × Value)} {t el : TypeId} [DecidableEq K]

/-- What stands at the key, and where; what is stored there is what an update stores. -/
theorem entry_update (T : KeyT P k K enc) (ht : P.underlying t = some (.map k el)) {z : Value} (hz : ∀ u : World, (zeroValue el).run P u = .ok z u) (h : IsMap enc w mb L) (a : K) :
    ∃ (v : Value) (st : Nat) (o1 : Obj), v = (mget a L).getD z ∧ (∀ W : World, W.heap[mb]? = w.heap[mb]? → (Instr.mapEntry t (.map (some mb)) (enc a)).run P W = .ok (.tuple #[v, goInt st]) (put W mb o1)) ∧
      ∀ (w2 : World) (val : Value), w2.heap[mb]? = some o1 → ∃ o, (Instr.entryStore t (.map (some mb)) (goInt st) val).run P w2 = .ok () (put w2 mb o) ∧
        ∀ W : World, W.heap[mb]? = w.heap[mb]? → (Instr.mapUpdate t (.map (some mb)) (enc a) val).run P W = .ok () (put W mb o) := by
  obtain ⟨es, clock, hb, he, hn, hs⟩ := h
  obtain ⟨s1, s2, s3⟩ := hs
  rcases T.find w a es.toList (entry_keys he) with ⟨h1, h2⟩ | ⟨j, e0, h1, h2, h3⟩
  · have hfind : ∀ W : World, (Instr.findKey k (enc a) es.toList).run P W = .ok none W := fun W => by
      rcases T.find W a es.toList (entry_keys he) with ⟨h1, _⟩ | ⟨j, e0, _, h4, h5⟩
      · exact h1
      · exact absurd h5 (h2 e0 (List.mem_of_getElem? h4))
    refine ⟨z, clock, .map (es.push ⟨enc a, z, clock⟩) (clock + 1), by rw [IsMap.get_none he h2]; rfl, fun W hW => ?_, fun w2 val hw2 => ⟨.map (es.push ⟨enc a, val, clock⟩) (clock + 1), ?_, fun W hW => ?_⟩⟩
    · have hb' := hW.trans hb
      simp [Instr.mapEntry, run_underlying ht, MapKept.run_getObj_map hb', T.check, hfind, hz, MapKept.run_setObj_map _ hb', Result.andThen, put]
    · have hidx : (es.push ⟨enc a, z, clock⟩).findIdx? (fun e => ((e.born : Nat) : Int) == ((clock : Nat) : Int)) = some es.size := by
        rw [WideElems.findIdx_arr]
        have := WideElems.findIdx_born (l := (es.push ⟨enc a, z, clock⟩).toList) (j := es.size) (e0 := ⟨enc a, z, clock⟩) (by
          simp only [Array.toList_push, List.map_append, List.map_cons, List.map_nil]
          refine List.nodup_append.2 ⟨s2, by simp, fun a ha c hc e1 => ?_⟩
          simp only [List.mem_singleton] at hc
          obtain ⟨x, hx, rfl⟩ := List.mem_map.1 ha
          have := s1 x hx
          omega) (by simp)
        exact this
      have hmod : (es.push ⟨enc a, z, clock⟩).modify es.size (fun e => { e with val := val }) = es.push ⟨enc a, val, clock⟩ := by
        apply Array.ext'
        rw [Array.toList_modify, Array.toList_push, Array.toList_push, ← Array.length_toList, WideElems.modify_last]
      simp [Instr.entryStore, MapKept.run_getObj_map hw2, asInt, asIntOf, goInt, hidx, hmod, MapKept.run_setObj_map _ hw2, Result.andThen, put]
    · have hb' := hW.trans hb
      simp [Instr.mapUpdate, run_underlying ht, MapKept.run_getObj_map hb', T.check, hfind, MapKept.run_setObj_map _ hb', Result.andThen, put]
  · have hfind : ∀ W : World, (Instr.findKey k (enc a) es.toList).run P W = .ok (some (j, e0.val)) W := fun W => by
      rcases T.find W a es.toList (entry_keys he) with ⟨_, h4⟩ | ⟨j', e0', h4, h5, h6⟩
      · exact absurd h3 (h4 e0 (List.mem_of_getElem? h2))
      · have hj : j' = j := by
          have e1 : (es.toList.map (·.key))[j']? = (es.toList.map (·.key))[j]? := by
            rw [List.getElem?_map, List.getElem?_map, h5, h2, Option.map_some, Option.map_some, h6, h3]
          exact (List.getElem?_inj (by rw [List.length_map]; exact (List.getElem?_eq_some_iff.1 h5).1) s3).1 e1
        subst hj
        have : e0' = e0 := Option.some.inj (h5.symm.trans h2)
        subst this
        exact h4
    have hj : es[j]? = some e0 := by simpa using h2
    have hsame : es.modify j (fun e => { e with key := enc a }) = es := by
      apply Array.ext'
      rw [Array.toList_modify, _root_.Go.ChangeMaps.modify_eq_set _ _ _ _ h2]
      have : ({ e0 with key := enc a } : MapEntry) = e0 := by rw [← h3]
      rw [this]
      exact WideElems.set_self _ _ _ h2
    have hget : (mget a L).getD z = e0.val := by
      obtain ⟨p, hp, hk, hv⟩ := entry_at he h2
      have : p.1 = a := T.inj (hk.symm.trans h3)
      rw [hv, ← this, mget_of_mem hn (List.mem_of_getElem? hp)]
      rfl
    refine ⟨e0.val, e0.born, .map es clock, hget.symm, fun W hW => ?_, fun w2 val hw2 => ⟨.map (es.modify j fun e => { e with key := enc a, val := val }) clock, ?_, fun W hW => ?_⟩⟩
    · have hb' := hW.trans hb
      simp [Instr.mapEntry, run_underlying ht, MapKept.run_getObj_map hb', T.check, hfind, hj, h3, T.stays, hsame, MapKept.run_setObj_map _ hb', Result.andThen, put]
    · have hidx : es.findIdx? (fun e => ((e.born : Nat) : Int) == ((e0.born : Nat) : Int)) = some j := by
        rw [WideElems.findIdx_arr]
        exact WideElems.findIdx_born s2 h2
      have hmod : es.modify j (fun e => { e with val := val }) = es.modify j (fun e' => { e' with key := enc a, val := val }) := by
        apply Array.ext'
        rw [Array.toList_modify, Array.toList_modify, _root_.Go.ChangeMaps.modify_eq_set _ _ _ _ h2, _root_.Go.ChangeMaps.modify_eq_set _ _ _ _ h2, ← h3]
      simp [Instr.entryStore, MapKept.run_getObj_map hw2, asInt, asIntOf, goInt, hidx, hmod, MapKept.run_setObj_map _ hw2, Result.andThen, put]
    · have hb' := hW.trans hb
      simp [Instr.mapUpdate, run_underlying ht, MapKept.run_getObj_map hb', T.check, hfind, hj, h3, T.stays, MapKept.run_setObj_map _ hb', Result.andThen, put]
end

/-- The way back of 'k.days[p] = append(k.days[p], day)'. -/
theorem BookAt.addE {W : World} {b : Nat} {B : Book} {S : Nat → Prop} (h : BookAt W b B S) (i j : Int) :
    ∃ mb v st o1, b ≠ mb ∧ W.cell? ⟨b, 1, none⟩ = some (.map (some mb)) ∧ mb < W.heap.size ∧ S mb ∧ (∀ W' : World, W'.heap[mb]? = W.heap[mb]? → (Instr.mapEntry 79 (.map (some mb)) (.agg #[.int .i64 i, .int .i64 j])).run Try.prog W' = .ok (.tuple #[v, goInt st]) (put W' mb o1)) ∧
      W.ownsRow 0 3 1 v (B.D (i, j)).length (nums .i64 (B.D (i, j))) ∧ (∀ g, v.ownBlock = some g → S g ∧ g ≠ b ∧ g ≠ mb) ∧
      ∀ (w1 : World) (v' : Value) (l' : List Int), (put W mb o1).grownBy w1 v.ownBlock → w1.ownsRow 0 3 1 v' l'.length (nums .i64 l') → (v'.ownBlock = v.ownBlock ∨ ∃ g, v'.ownBlock = some g ∧ W.heap.size ≤ g) →
        ∃ o, (Instr.entryStore 79 (.map (some mb)) (goInt st) v').run Try.prog w1 = .ok () (put w1 mb o) ∧
          BookAt (put w1 mb o) b { B with D := upd B.D (i, j) l' } (fun k => S k ∨ (W.heap.size ≤ k ∧ k < w1.heap.size)) ∧ Fr S W (put w1 mb o) := by
  obtain ⟨mb, L, h1, h2, _⟩ := id h
  obtain ⟨v, st, o1, hv, hent, hst⟩ := entry_update key75 Try.underlying79 zero39 h2 (i, j)
  obtain ⟨mb', v0, k1, k2, k3, k4, k5, k6, k7⟩ := h.add i j
  have hmb : mb' = mb := by
    have e1 : W.cell? ⟨b, 1, none⟩ = some (.map (some mb)) := (blk_cell h1 1).trans rfl
    have := k1.symm.trans e1
    simp only [Option.some.injEq, Value.map.injEq] at this
    exact this
  subst hmb
  have hv0 : v0 = v := by
    have e1 := k4 W rfl
    have e2 := IsMap.lookup key75 Try.underlying79 (zero39 W) h2 (i, j) false
    have e3 := e1.symm.trans e2
    exact ((Result.ok.inj e3).1).trans hv.symm
  subst hv0
  have hbm : b ≠ mb' := by
    rintro rfl
    obtain ⟨es, clock, hh, _⟩ := h2
    rw [h1] at hh
    cases hh
  refine ⟨mb', v0, st, o1, hbm, k1, k2, k3, hent, k5, k6, fun w1 v' l' hg ho hat => ?_⟩
  have hsz : (put W mb' o1).heap.size = W.heap.size := put_size
  have hmv : some mb' ≠ v0.ownBlock := fun e => (k6 mb' e.symm).2.2 rfl
  have hw1 : w1.heap[mb']? = some o1 := by
    rw [hg.block mb' (by rw [hsz]; exact k2) hmv]
    simp [put, k2]
  have hm1 : mb' < w1.heap.size := by have := hg.size; rw [hsz] at this; omega
  obtain ⟨o, he1, he2⟩ := hst w1 v' hw1
  obtain ⟨o0, ho0⟩ : ∃ o0, W.heap[mb']? = some o0 := ⟨_, Array.getElem?_eq_getElem k2⟩
  have hback : put (put w1 mb' o0) mb' o = put w1 mb' o := by
    simp [put]
  have hw1' : (put w1 mb' o0).heap[mb']? = W.heap[mb']? := by rw [ho0]; simp [put, hm1]
  have hgW : W.grownBy (put w1 mb' o0) v0.ownBlock := by
    refine ⟨hg.os, hg.tape, hg.output, by rw [put_size]; have := hg.size; rw [hsz] at this; exact this, fun x hx hne => ?_⟩
    by_cases hxm : x = mb'
    · subst hxm; exact hw1'
    · rw [put_heap x hxm, hg.block x (by rw [hsz]; exact hx) hne, put_heap x hxm]
  have hv'm : v'.ownBlock ≠ some mb' := by
    rcases hat with e | ⟨g, e, hlt⟩
    · rw [e]; exact fun e => hmv e.symm
    · rw [e]; intro e2; injection e2 with e2; omega
  have ho' : (put w1 mb' o0).ownsRow 0 3 1 v' l'.length (nums .i64 l') :=
    own_grown (S := fun k => k = mb') ho ((Fr.refl (fun k => k = mb') w1).put (fun _ => rfl) o0) (fun g hg e => hv'm (e ▸ hg))
  obtain ⟨o', q1, q2, q3⟩ := k7 (put w1 mb' o0) v' l' hgW ho' hat
  have q4 := he2 (put w1 mb' o0) hw1'
  have q5 := q1.symm.trans q4
  have q5 := (Result.ok.inj q5).2
  rw [q5, hback] at q2 q3
  rw [put_size] at q2
  exact ⟨o, he1, q2, q3⟩

section
open Go.Proofs.YtkbiggmkjbmgoaaW.PrintLast
variable {P : Program} {ops : Array Oper} {Q : Exit → Act → World → Prop} {o : Oper} {a : Act} {w w1 : World} {K : Act → World → Prop}
theorem mapEntry_step {N : Option Tmp} {m k : Operand} {t : TypeId} {vm vk v : Value} (hw : Region.wanted o (yielded ops a.tmps) = true) (hN : o.dst = N)
    (ho : o.op = .mapEntry t m k) (hm : a.eval m = vm) (hk : a.eval k = vk) (hr : (Instr.mapEntry t vm vk).run P w = .ok v w1) (h : K (a.put N v) w1) :
    if Region.wanted o (yielded ops a.tmps) = true then Oper.wp P o a w K Q else K (a.put N undef) w := by
  refine value_ hw hN ?_ h
  unfold execOp
  simp only [ho, hm, hk, Sem.run_bind, hr, Result.andThen_ok, Sem.run_pure]
theorem entryStore_step {m s x : Operand} {t : TypeId} {vm vs vx : Value} (hw : Region.wanted o (yielded ops a.tmps) = true) (hN : o.dst = none)
    (ho : o.op = .entryStore t m s x) (hm : a.eval m = vm) (hs : a.eval s = vs) (hx : a.eval x = vx) (hr : (Instr.entryStore t vm vs vx).run P w = .ok () w1) (h : K a w1) :
    if Region.wanted o (yielded ops a.tmps) = true then Oper.wp P o a w K Q else K (a.put none undef) w := by
  refine skip_ hw hN ?_ h
  unfold execOp
  simp only [ho, hm, hs, hx, Sem.run_bind, hr, Result.andThen_ok, Sem.run_pure]
end
end Go.Proofs.Ytkbiggmkjbmgoaa.Bk
