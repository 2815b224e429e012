/- Types: the rules by which the walk loads, stores and compares the structs of this program whole. Printed by gen_types.py. -/
import Derived.Test.YtalfbhhldfffkabDoorProg
import Derived.Test.YtalfbhhldfffkabDoorMem
import Derived.Lib.SliceRun
namespace Go.Proofs.YtalfbhhldfffkabDoor
open Go.RowKit

/-! ### Call -/
theorem isCall : IsType Tryd.prog 23 Call := ⟨⟨_, Tryd.underlying23⟩, by kernel_rfl⟩
theorem elemCall : ElemOk Tryd.prog 23 Call 56 := ElemOk.mk' (n := 4) (by kernel_rfl) rfl (by decide)
theorem LV_Call {w : World} {a : Addr} {x : Call} (h : At w a x) : LV Tryd.prog 23 a w = .ok (.agg x.cells) w := LV_at isCall h
@[go_sem] theorem LVb_Call (b o : Nat) (w : World) : LV Tryd.prog 23 ⟨b, o, none⟩ w = LVp Tryd.prog 23 b o w (objPart o 4 (w.heap[b]?)) := LVp_eq Tryd.underlying23 isCall.size b o w
@[go_sem] theorem run_storeS_Call (x : Call) (b o : Nat) (w : World) : (storeS 23 (.pointer (some ⟨b, o, none⟩)) (.agg x.cells)).run Tryd.prog w = SVo Tryd.prog 23 4 b o x.cells w (w.heap[b]?) := SVo_eq isCall.size (Lies.size_eq x) (Lies.one x) b o w
theorem eqn_Call (x y : Call) : decide (x = y) = ((x.kind == y.kind && (x.name.toList == y.name.toList && (x.to_.toList == y.to_.toList && (x.text.toList == y.text.toList))))) := by
  rw [Bool.eq_iff_iff]
  cases x; cases y
  simp [ba_eq]
theorem run_eql_Call (x y : Call) (w : World) : (binOp .eql 23 (.agg x.cells) (.agg y.cells)).run Tryd.prog w = .ok (.bool (decide (x = y))) w := by
  rw [eqn_Call]
  unfold Call.cells
  simp [go_sem]
  repeat' split
  all_goals simp_all
theorem run_neq_Call (x y : Call) (w : World) : (binOp .neq 23 (.agg x.cells) (.agg y.cells)).run Tryd.prog w = .ok (.bool (!decide (x = y))) w := by
  rw [eqn_Call]
  unfold Call.cells
  simp [go_sem]
  repeat' split
  all_goals simp_all
@[go_sem] theorem guard_Call (op : BinOp) (a b : Operand) (x y : Call) (w : World) : (eqGuard op 23 a b (.agg x.cells) (.agg y.cells)).run Tryd.prog w = .ok () w := run_eqGuard_agg w op 23 a b _ _ (by kernel_rfl)

/-! ### Answer -/
theorem isAnswer : IsType Tryd.prog 25 Answer := ⟨⟨_, Tryd.underlying25⟩, by kernel_rfl⟩
theorem elemAnswer : ElemOk Tryd.prog 25 Answer 24 := ElemOk.mk' (n := 2) (by kernel_rfl) rfl (by decide)
theorem LV_Answer {w : World} {a : Addr} {x : Answer} (h : At w a x) : LV Tryd.prog 25 a w = .ok (.agg x.cells) w := LV_at isAnswer h
@[go_sem] theorem LVb_Answer (b o : Nat) (w : World) : LV Tryd.prog 25 ⟨b, o, none⟩ w = LVp Tryd.prog 25 b o w (objPart o 2 (w.heap[b]?)) := LVp_eq Tryd.underlying25 isAnswer.size b o w
@[go_sem] theorem run_storeS_Answer (x : Answer) (b o : Nat) (w : World) : (storeS 25 (.pointer (some ⟨b, o, none⟩)) (.agg x.cells)).run Tryd.prog w = SVo Tryd.prog 25 2 b o x.cells w (w.heap[b]?) := SVo_eq isAnswer.size (Lies.size_eq x) (Lies.one x) b o w
theorem eqn_Answer (x y : Answer) : decide (x = y) = ((x.code == y.code && (x.text.toList == y.text.toList))) := by
  rw [Bool.eq_iff_iff]
  cases x; cases y
  simp [ba_eq]
theorem run_eql_Answer (x y : Answer) (w : World) : (binOp .eql 25 (.agg x.cells) (.agg y.cells)).run Tryd.prog w = .ok (.bool (decide (x = y))) w := by
  rw [eqn_Answer]
  unfold Answer.cells
  simp [go_sem]
  repeat' split
  all_goals simp_all
theorem run_neq_Answer (x y : Answer) (w : World) : (binOp .neq 25 (.agg x.cells) (.agg y.cells)).run Tryd.prog w = .ok (.bool (!decide (x = y))) w := by
  rw [eqn_Answer]
  unfold Answer.cells
  simp [go_sem]
  repeat' split
  all_goals simp_all
@[go_sem] theorem guard_Answer (op : BinOp) (a b : Operand) (x y : Answer) (w : World) : (eqGuard op 25 a b (.agg x.cells) (.agg y.cells)).run Tryd.prog w = .ok () w := run_eqGuard_agg w op 25 a b _ _ (by kernel_rfl)

/-! ### Packet -/

/-! ### Record -/

/-! ### PostStep -/

/-! ### ClientStep -/

/-! ### FileF -/

/-! ### FileR -/

/-! ### StoreStep -/

/-! ### Step -/

theorem elemString : ElemOk Tryd.prog 9 ByteArray 16 := ElemOk.mk' (n := 1) (by kernel_rfl) rfl (by decide)
theorem elemByte : ElemOk Tryd.prog 5 UInt8 1 := ElemOk.mk' (n := 1) (by kernel_rfl) rfl (by decide)
theorem elemInt : ElemOk Tryd.prog 3 Int 8 := ElemOk.mk' (n := 1) (by kernel_rfl) rfl (by decide)
@[go_sem ↓] theorem load_Call (v : Value) : Instr.loadAt 23 v = loadS 23 v := rfl
@[go_sem ↓] theorem store_Call (a v : Value) : Instr.storeAt 23 a v = storeS 23 a v := rfl
@[go_sem] theorem fold_Call (x0 : Int) (x1 : ByteArray) (x2 : ByteArray) (x3 : ByteArray) : Obj.cells #[.int .i64 x0, .string x1, .string x2, .string x3] 23 (0, 0) = Obj.cells (Call.cells (⟨x0, x1, x2, x3⟩ : Call)) 23 (0, 0) := by unfold Call.cells; rfl
@[go_sem ↓] theorem bin_eql_Call (x y : Value) : binOp .eql 23 x y = binS .eql 23 x y := rfl
@[go_sem] theorem runS_eql_Call (x y : Call) (w : World) : (binS .eql 23 (.agg x.cells) (.agg y.cells)).run Tryd.prog w = .ok (.bool (decide (x = y))) w := run_eql_Call x y w
@[go_sem ↓] theorem bin_neq_Call (x y : Value) : binOp .neq 23 x y = binS .neq 23 x y := rfl
@[go_sem] theorem runS_neq_Call (x y : Call) (w : World) : (binS .neq 23 (.agg x.cells) (.agg y.cells)).run Tryd.prog w = .ok (.bool (!decide (x = y))) w := run_neq_Call x y w
@[go_sem ↓] theorem load_Answer (v : Value) : Instr.loadAt 25 v = loadS 25 v := rfl
@[go_sem ↓] theorem store_Answer (a v : Value) : Instr.storeAt 25 a v = storeS 25 a v := rfl
@[go_sem] theorem fold_Answer (x0 : Int) (x1 : ByteArray) : Obj.cells #[.int .i64 x0, .string x1] 25 (0, 0) = Obj.cells (Answer.cells (⟨x0, x1⟩ : Answer)) 25 (0, 0) := by unfold Answer.cells; rfl
@[go_sem ↓] theorem bin_eql_Answer (x y : Value) : binOp .eql 25 x y = binS .eql 25 x y := rfl
@[go_sem] theorem runS_eql_Answer (x y : Answer) (w : World) : (binS .eql 25 (.agg x.cells) (.agg y.cells)).run Tryd.prog w = .ok (.bool (decide (x = y))) w := run_eql_Answer x y w
@[go_sem ↓] theorem bin_neq_Answer (x y : Value) : binOp .neq 25 x y = binS .neq 25 x y := rfl
@[go_sem] theorem runS_neq_Answer (x y : Answer) (w : World) : (binS .neq 25 (.agg x.cells) (.agg y.cells)).run Tryd.prog w = .ok (.bool (!decide (x = y))) w := run_neq_Answer x y w
attribute [go_sem] Call.fold_agg Answer.fold_agg Packet.fold_agg Record.fold_agg PostStep.fold_agg ClientStep.fold_agg FileD.fold_agg StoreStep.fold_agg Step.fold_agg
end Go.Proofs.YtalfbhhldfffkabDoor
