/- Single operations of a region that draws its order, met by their run: plain laws over any program. -/
import Derived.Test.YtkngdlmlijefbaaM
import Derived.Test.YtkngdlmlijefbaaWLast
import Derived.Maps.AppendAt
namespace Go.Proofs.Mp
open Go.RowKit Go.Proofs.YtkngdlmlijefbaaW.PrintLast

section
variable {P : Program} {ops : Array Oper} {Q : Exit → Act → World → Prop} {o : Oper} {a : Act} {w w1 : World} {K : Act → World → Prop}

/-- 'append' in a region. -/
theorem append_step {N : Option Tmp} {s x : Operand} {t : TypeId} {vs vx v : Value} (hw : Region.wanted o (yielded ops a.tmps) = true) (hN : o.dst = N)
    (ho : o.op = .call { callee := .builtin .append, args := #[s, x], argTypes := #[t, t] }) (hs : a.eval s = vs) (hx : a.eval x = vx)
    (hr : (Builtin.append_ #[t, t] o.type #[vs, vx]).run P w = .ok v w1) (h : K (a.put N v) w1) :
    if Region.wanted o (yielded ops a.tmps) = true then Oper.wp P o a w K Q else K (a.put N undef) w := by
  rw [if_pos hw]
  subst hN
  unfold Oper.wp execOp
  simp only [ho, resolve, invoke, builtin, Sem.run_bind, Sem.run_pure, Result.andThen_ok, List.map_toArray, List.map_cons, List.map_nil, hs, hx, hr]
  exact h
/-- A store into a map in a region. -/
theorem mapUpdate_step {m k x : Operand} {t : TypeId} {vm vk vx : Value} (hw : Region.wanted o (yielded ops a.tmps) = true) (hN : o.dst = none)
    (ho : o.op = .mapUpdate t m k x) (hm : a.eval m = vm) (hk : a.eval k = vk) (hx : a.eval x = vx)
    (hr : (Instr.mapUpdate t vm vk vx).run P w = .ok () w1) (h : K a w1) :
    if Region.wanted o (yielded ops a.tmps) = true then Oper.wp P o a w K Q else K (a.put none undef) w := by
  refine skip_ hw hN ?_ h
  unfold execOp
  simp only [ho, hm, hk, hx, Sem.run_bind, hr, Result.andThen_ok, Sem.run_pure]
/-- A lookup in a region. -/
theorem lookup_step {N : Option Tmp} {m k : Operand} {t : TypeId} {c : Bool} {vm vk v : Value} (hw : Region.wanted o (yielded ops a.tmps) = true) (hN : o.dst = N)
    (ho : o.op = .lookup t m k c) (hm : a.eval m = vm) (hk : a.eval k = vk) (hr : (Instr.lookup t vm vk c).run P w = .ok v w1) (h : K (a.put N v) w1) :
    if Region.wanted o (yielded ops a.tmps) = true then Oper.wp P o a w K Q else K (a.put N undef) w := by
  refine value_ hw hN ?_ h
  unfold execOp
  simp only [ho, hm, hk, Sem.run_bind, hr, Result.andThen_ok, Sem.run_pure]
end

/-! The same operations in a region in the text order. -/
section
variable {P : Program} {ops : Array Oper} {rest : List Oper} {Q : Exit → Act → World → Prop} {o : Oper} {a : Act} {w w1 : World}
theorem append_list {N : Option Tmp} {s x : Operand} {t : TypeId} {vs vx v : Value} (hg : o.guard = none) (hN : o.dst = N)
    (ho : o.op = .call { callee := .builtin .append, args := #[s, x], argTypes := #[t, t] }) (hs : a.eval s = vs) (hx : a.eval x = vx)
    (hr : (Builtin.append_ #[t, t] o.type #[vs, vx]).run P w = .ok v w1) (h : wpList P ops Q rest (a.put N v) w1) : wpList P ops Q (o :: rest) a w := by
  refine wpList_plain hg fun K hK => ?_
  subst hN
  unfold Oper.wp execOp
  simp only [ho, resolve, invoke, builtin, Sem.run_bind, Sem.run_pure, Result.andThen_ok, List.map_toArray, List.map_cons, List.map_nil, hs, hx, hr]
  exact hK _ _ h
theorem mapUpdate_list {m k x : Operand} {t : TypeId} {vm vk vx : Value} (hg : o.guard = none) (hN : o.dst = none)
    (ho : o.op = .mapUpdate t m k x) (hm : a.eval m = vm) (hk : a.eval k = vk) (hx : a.eval x = vx)
    (hr : (Instr.mapUpdate t vm vk vx).run P w = .ok () w1) (h : wpList P ops Q rest a w1) : wpList P ops Q (o :: rest) a w := by
  refine wpList_plain hg fun K hK => ?_
  have hrun : (execOp a.eval o).run P w = .ok .skip w1 := by
    unfold execOp
    simp only [ho, hm, hk, hx, Sem.run_bind, hr, Result.andThen_ok, Sem.run_pure]
  unfold Oper.wp
  rw [hrun]
  refine hK _ _ ?_
  rw [hN]
  exact h
end
end Go.Proofs.Mp
