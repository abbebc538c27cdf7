/- The builtins copy, append and clear, run at one operation. No program in sight. -/
import Derived.Test.YtmfbcebbklimoaaBase
import Derived.Test.YtmfbcebbklimoaaWWords
set_option linter.unusedVariables false
set_option linter.unusedSimpArgs false
namespace Go.Proofs.Ytmfbcebbklimoaa
open Go.RowKit
open Go.Proofs.YtmfbcebbklimoaaW.PrintWords

section
variable {P : Program} {ops : Array Oper} {rest : List Oper} {o : Oper} {a : Act} {W w1 : World} {K : Act → World → Prop} {Q : Exit → Act → World → Prop} {E : Prop}
theorem run_builtin {b : Builtin} {ag : Array Operand} {ts : Array TypeId} {v : Value} (ho : o.op = .call { callee := .builtin b, args := ag, argTypes := ts })
    (hr : ∀ cs, (builtin b ts o.type cs (ag.map a.eval)).run P W = .ok (.value v) w1) : (execOp a.eval o).run P W = .ok (.value v) w1 := by
  unfold execOp
  simp only [ho, resolve, Sem.run_bind, Sem.run_pure, Result.andThen_ok, invoke]
  exact hr _
theorem wpl_builtin (hgd : o.guard = none) {b : Builtin} {ag : Array Operand} {ts : Array TypeId} {v : Value} (ho : o.op = .call { callee := .builtin b, args := ag, argTypes := ts })
    (hr : ∀ cs, (builtin b ts o.type cs (ag.map a.eval)).run P W = .ok (.value v) w1) (h : wpList P ops Q rest (a.put o.dst v) w1) : wpList P ops Q (o :: rest) a W :=
  Kd.event_run hgd (run_builtin ho hr) h
theorem step_builtin (hw : Region.wanted o (yielded ops a.tmps) = true) {b : Builtin} {ag : Array Operand} {ts : Array TypeId} {v : Value} (ho : o.op = .call { callee := .builtin b, args := ag, argTypes := ts })
    (hr : ∀ cs, (builtin b ts o.type cs (ag.map a.eval)).run P W = .ok (.value v) w1) (h : K (a.put o.dst v) w1) : if Region.wanted o (yielded ops a.tmps) = true then Oper.wp P o a W K Q else E := by
  rw [if_pos hw]
  unfold Oper.wp
  rw [run_builtin ho hr]
  exact h
theorem step_builtin2 (hw : Region.wanted o (yielded ops a.tmps) = true) {b : Builtin} {x y : Operand} {ts : Array TypeId} {v vx vy : Value} (ho : o.op = .call { callee := .builtin b, args := #[x, y], argTypes := ts })
    (hx : a.eval x = vx) (hy : a.eval y = vy) (hr : ∀ cs, (builtin b ts o.type cs #[vx, vy]).run P W = .ok (.value v) w1) (h : K (a.put o.dst v) w1) : if Region.wanted o (yielded ops a.tmps) = true then Oper.wp P o a W K Q else E :=
  step_builtin hw ho (fun cs => by simp only [List.map_toArray, List.map_cons, List.map_nil, hx, hy]; exact hr cs) h
theorem wpl_builtin2 (hgd : o.guard = none) {b : Builtin} {x y : Operand} {ts : Array TypeId} {v vx vy : Value} (ho : o.op = .call { callee := .builtin b, args := #[x, y], argTypes := ts })
    (hx : a.eval x = vx) (hy : a.eval y = vy) (hr : ∀ cs, (builtin b ts o.type cs #[vx, vy]).run P W = .ok (.value v) w1) (h : wpList P ops Q rest (a.put o.dst v) w1) : wpList P ops Q (o :: rest) a W :=
  wpl_builtin hgd ho (fun cs => by simp only [List.map_toArray, List.map_cons, List.map_nil, hx, hy]; exact hr cs) h
theorem bi_clear {ts : Array TypeId} {t : TypeId} {ag : Array Value} {v : Value} (hr : (Builtin.clear_ ts t ag).run P W = .ok v w1) : ∀ cs, (builtin .clear ts t cs ag).run P W = .ok (.value v) w1 := by
  intro cs
  show (do pure (.value (← Builtin.clear_ ts t ag)) : Sem Next).run P W = _
  simp [hr]
theorem bi_copy {ts : Array TypeId} {t : TypeId} {ag : Array Value} {v : Value} (hr : (Builtin.copy_ ts t ag).run P W = .ok v w1) : ∀ cs, (builtin .copy ts t cs ag).run P W = .ok (.value v) w1 := by
  intro cs
  show (do pure (.value (← Builtin.copy_ ts t ag)) : Sem Next).run P W = _
  simp [hr]
theorem bi_append {ts : Array TypeId} {t : TypeId} {ag : Array Value} {v : Value} (hr : (Builtin.append_ ts t ag).run P W = .ok v w1) : ∀ cs, (builtin .append ts t cs ag).run P W = .ok (.value v) w1 := by
  intro cs
  show (do pure (.value (← Builtin.append_ ts t ag)) : Sem Next).run P W = _
  simp [hr]
end
end Go.Proofs.Ytmfbcebbklimoaa
