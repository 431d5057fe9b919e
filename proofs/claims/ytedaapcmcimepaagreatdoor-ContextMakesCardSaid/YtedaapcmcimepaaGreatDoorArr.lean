/-
  Loads and stores of whole arrays, as operations of a plain region.
-/
import Derived.Test.YtedaapcmcimepaaGreatDoorDig
namespace Go.Proofs.YtedaapcmcimepaaGreatDoor
open Go.RowKit
section
variable {P : Program}
/-- A load of a whole array as an operation of a plain region. -/
theorem wpList_loadRow {w : World} {ops : Array Oper} {rest : List Oper} {o : Oper} {a : Act} {Q : Exit → Act → World → Prop} (hgd : o.guard = none) (x : Operand) (ty : TypeId) (ho : o.op = .load ty x) (p : Addr) (hx : a.eval x = .pointer (some p)) (v : Value)
    (hl : (Instr.loadAt ty (.pointer (some p))).run P w = .ok v w) (h : wpList P ops Q rest (a.put o.dst v) w) : wpList P ops Q (o :: rest) a w := by
  refine wpList_plain hgd fun K hK => ?_
  unfold Oper.wp execOp
  simp only [ho, Sem.run_bind, Sem.run_pure, hx, hl]
  exact hK _ _ h
/-- A store of a whole array, likewise. -/
theorem wpList_storeRow {w w' : World} {ops : Array Oper} {rest : List Oper} {o : Oper} {a : Act} {Q : Exit → Act → World → Prop} (hgd : o.guard = none) (hd : o.dst = none) (x y : Operand) (ty : TypeId) (ho : o.op = .store ty x y) (p : Addr) (hx : a.eval x = .pointer (some p)) (v : Value) (hy : a.eval y = v)
    (hl : (Instr.storeAt ty (.pointer (some p)) v).run P w = .ok () w') (h : wpList P ops Q rest a w') : wpList P ops Q (o :: rest) a w := by
  refine wpList_plain hgd fun K hK => ?_
  unfold Oper.wp execOp
  simp only [ho, Sem.run_bind, Sem.run_pure, hx, hy, hl]
  have h1 := hK a w' h
  simpa [Oper.upon, Result.andThen, hd, Act.put] using h1
end
end Go.Proofs.YtedaapcmcimepaaGreatDoor
