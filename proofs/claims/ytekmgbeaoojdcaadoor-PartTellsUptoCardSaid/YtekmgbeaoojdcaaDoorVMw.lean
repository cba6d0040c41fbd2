/- Words of this session's own: a call through a slot that holds a function without captures; what is known of the package variables that the library reads, and that it stays. -/
import Derived.Test.YtekmgbeaoojdcaaDoorVWWords
import Derived.Test.YtekmgbeaoojdcaaDoorVWLast
import Derived.Test.YtekmgbeaoojdcaaDoorVWMore
import Derived.Test.YtekmgbeaoojdcaaDoorProg
import Derived.Lib.ItoaMem
import Derived.Lib.LaidTab
import Derived.WalkSmall
namespace Go.Proofs.YtekmgbeaoojdcaaDoor.Mw
open Go.RowKit Go.Proofs.YtekmgbeaoojdcaaDoorW.PrintWords Go.Proofs.YtekmgbeaoojdcaaDoorW.PrintLast Go.Proofs.YtekmgbeaoojdcaaDoorW.PrintMore
section
variable {P : Program} {ops : Array Oper} {Q : Exit → Act → World → Prop}
theorem gate_calleeV {rest : List Oper} {o : Oper} {a : Act} {W : World} {t : Tmp} {al : Array Operand} {ts : Array TypeId} (_ho : o.op = .call { callee := .value (.tmp t), args := al, argTypes := ts }) (h : wpList P ops Q (o :: rest) a W) : wpList P ops Q (o :: rest) a W := h
theorem goesV_ {rest : List Oper} {oi : Oper} {a : Act} {w : World} (N : Option Tmp) (hd : oi.dst = N) (hg : oi.guard = none) {f : FuncId} {fn : Func} {c : Operand} {al : Array Operand} {ts : Array TypeId} (hf : P.funcs[f]? = some fn) (hname : (fn.name == "runtime.NumGoroutine") = false) (hb : fn.body.isSome = true) (args : Array Value)
    (hop : oi.op = .call { callee := .value c, args := al, argTypes := ts }) (hc : a.eval c = .func (.func f) #[] #[]) (hargs : al.map a.eval = args)
    (h : Calls P f args w fun e w' => ∃ v, e = .returned v ∧ wpList P ops Q rest (a.put N v) w') : wpList P ops Q (oi :: rest) a w := by
  refine wpList_plain hg fun K hK => ?_
  have he := enters_ hf hname hb args w
  have hrun : (execOp a.eval oi).run P w = .ok (.enter f args) w := by
    unfold execOp
    simp [hop, resolve, Deferred.ofValue, invoke, hc, hargs, he]
  unfold Oper.wp
  rw [hrun, Oper.upon_enter]
  refine h.mono fun e w'' hh => ?_
  obtain ⟨v, rfl, hk⟩ := hh
  subst hd
  exact hK _ _ hk
end
theorem empty_bne (l : List UInt8) : l.isEmpty = !(l != []) := by cases l <;> rfl
/-- A table that a package variable holds stays where what was there stays. -/
theorem tab_below {P : Program} {n : String} {g : Nat} {k : IntKind} {zs : List Int} {w w' : World} (hg : P.globalNamed n = some g) (h : Lib.TabIs P w n k zs) (hb : Below w.heap.size w w') : Lib.TabIs P w' n k zs := by
  unfold Lib.TabIs at *
  refine var?_below hb hg ?_ h
  unfold World.var? at h
  simp only [hg, Option.bind_some] at h
  rcases Nat.lt_or_ge g w.heap.size with hl | hl
  · exact hl
  · rw [Array.getElem?_eq_none hl] at h
    cases h
end Go.Proofs.YtekmgbeaoojdcaaDoor.Mw
