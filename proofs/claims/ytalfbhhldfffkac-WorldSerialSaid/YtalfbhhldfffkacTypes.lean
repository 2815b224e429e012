/- Types: the rules by which the walk loads, stores and compares the structs of this program whole. Printed by gen_types.py. -/
import Derived.Test.YtalfbhhldfffkacProg
import Derived.Test.YtalfbhhldfffkacMem
import Derived.Lib.SliceRun
namespace Go.Proofs.Ytalfbhhldfffkac
open Go.RowKit

/-! ### Call -/
theorem isCall : IsType Try.prog 30 Call := ⟨⟨_, Try.underlying30⟩, by kernel_rfl⟩
theorem elemCall : ElemOk Try.prog 30 Call 56 := ElemOk.mk' (n := 4) (by kernel_rfl) rfl (by decide)
theorem LV_Call {w : World} {a : Addr} {x : Call} (h : At w a x) : LV Try.prog 30 a w = .ok (.agg x.cells) w := LV_at isCall h
@[go_sem] theorem LVb_Call (b o : Nat) (w : World) : LV Try.prog 30 ⟨b, o, none⟩ w = LVp Try.prog 30 b o w (objPart o 4 (w.heap[b]?)) := LVp_eq Try.underlying30 isCall.size b o w
@[go_sem] theorem run_storeS_Call (x : Call) (b o : Nat) (w : World) : (storeS 30 (.pointer (some ⟨b, o, none⟩)) (.agg x.cells)).run Try.prog w = SVo Try.prog 30 4 b o x.cells w (w.heap[b]?) := SVo_eq isCall.size (Lies.size_eq x) (Lies.one x) b o w
theorem eqn_Call (x y : Call) : decide (x = y) = ((x.kind == y.kind && (x.name.toList == y.name.toList && (x.to_.toList == y.to_.toList && (x.text.toList == y.text.toList))))) := by
  rw [Bool.eq_iff_iff]
  cases x; cases y
  simp [ba_eq]
theorem run_eql_Call (x y : Call) (w : World) : (binOp .eql 30 (.agg x.cells) (.agg y.cells)).run Try.prog w = .ok (.bool (decide (x = y))) w := by
  rw [eqn_Call]
  unfold Call.cells
  simp [go_sem]
  repeat' split
  all_goals simp_all
theorem run_neq_Call (x y : Call) (w : World) : (binOp .neq 30 (.agg x.cells) (.agg y.cells)).run Try.prog w = .ok (.bool (!decide (x = y))) w := by
  rw [eqn_Call]
  unfold Call.cells
  simp [go_sem]
  repeat' split
  all_goals simp_all
@[go_sem] theorem guard_Call (op : BinOp) (a b : Operand) (x y : Call) (w : World) : (eqGuard op 30 a b (.agg x.cells) (.agg y.cells)).run Try.prog w = .ok () w := run_eqGuard_agg w op 30 a b _ _ (by kernel_rfl)
theorem run_bs1_Call_apiCall (x : Call) (w : World) : (Instr.buildSlice 27 1 #[(0, .agg x.cells)]).run Try.prog w = .ok (.slice (some ⟨w.heap.size, 0, none⟩) 1 1) (w.alloc (.cells x.cells 30)) := by
  unfold Call.cells
  simp [go_sem]
theorem run_bs0_Call_apiCall (w : World) : (Instr.buildSlice 27 0 #[]).run Try.prog w = .ok (.slice (some ⟨w.heap.size, 0, none⟩) 0 0) (w.alloc (.cells #[] 30)) := by
  simp [go_sem]
@[go_sem] theorem eqlnil_Call_apiCall (a : Option Addr) (n c : Nat) (w : World) : (binOp .eql 27 (.slice a n c) (.slice none 0 0)).run Try.prog w = .ok (.bool a.isNone) w := Lib.run_eql_slice_nil w 27 30 a n c 0 0 Try.underlying27

/-! ### Answer -/
theorem isAnswer : IsType Try.prog 46 Answer := ⟨⟨_, Try.underlying46⟩, by kernel_rfl⟩
theorem elemAnswer : ElemOk Try.prog 46 Answer 24 := ElemOk.mk' (n := 2) (by kernel_rfl) rfl (by decide)
theorem LV_Answer {w : World} {a : Addr} {x : Answer} (h : At w a x) : LV Try.prog 46 a w = .ok (.agg x.cells) w := LV_at isAnswer h
@[go_sem] theorem LVb_Answer (b o : Nat) (w : World) : LV Try.prog 46 ⟨b, o, none⟩ w = LVp Try.prog 46 b o w (objPart o 2 (w.heap[b]?)) := LVp_eq Try.underlying46 isAnswer.size b o w
@[go_sem] theorem run_storeS_Answer (x : Answer) (b o : Nat) (w : World) : (storeS 46 (.pointer (some ⟨b, o, none⟩)) (.agg x.cells)).run Try.prog w = SVo Try.prog 46 2 b o x.cells w (w.heap[b]?) := SVo_eq isAnswer.size (Lies.size_eq x) (Lies.one x) b o w
theorem eqn_Answer (x y : Answer) : decide (x = y) = ((x.code == y.code && (x.text.toList == y.text.toList))) := by
  rw [Bool.eq_iff_iff]
  cases x; cases y
  simp [ba_eq]
theorem run_eql_Answer (x y : Answer) (w : World) : (binOp .eql 46 (.agg x.cells) (.agg y.cells)).run Try.prog w = .ok (.bool (decide (x = y))) w := by
  rw [eqn_Answer]
  unfold Answer.cells
  simp [go_sem]
  repeat' split
  all_goals simp_all
theorem run_neq_Answer (x y : Answer) (w : World) : (binOp .neq 46 (.agg x.cells) (.agg y.cells)).run Try.prog w = .ok (.bool (!decide (x = y))) w := by
  rw [eqn_Answer]
  unfold Answer.cells
  simp [go_sem]
  repeat' split
  all_goals simp_all
@[go_sem] theorem guard_Answer (op : BinOp) (a b : Operand) (x y : Answer) (w : World) : (eqGuard op 46 a b (.agg x.cells) (.agg y.cells)).run Try.prog w = .ok () w := run_eqGuard_agg w op 46 a b _ _ (by kernel_rfl)

/-! ### Packet -/
theorem isPacket : IsType Try.prog 104 Packet := ⟨⟨_, Try.underlying104⟩, by kernel_rfl⟩
theorem elemPacket : ElemOk Try.prog 104 Packet 104 := ElemOk.mk' (n := 9) (by kernel_rfl) rfl (by decide)
theorem LV_Packet {w : World} {a : Addr} {x : Packet} (h : At w a x) : LV Try.prog 104 a w = .ok (.agg x.cells) w := LV_at isPacket h
@[go_sem] theorem LVb_Packet (b o : Nat) (w : World) : LV Try.prog 104 ⟨b, o, none⟩ w = LVp Try.prog 104 b o w (objPart o 9 (w.heap[b]?)) := LVp_eq Try.underlying104 isPacket.size b o w
@[go_sem] theorem run_storeS_Packet (x : Packet) (b o : Nat) (w : World) : (storeS 104 (.pointer (some ⟨b, o, none⟩)) (.agg x.cells)).run Try.prog w = SVo Try.prog 104 9 b o x.cells w (w.heap[b]?) := SVo_eq isPacket.size (Lies.size_eq x) (Lies.one x) b o w
theorem eqn_Packet (x y : Packet) : decide (x = y) = ((x.reply == y.reply && (x.client == y.client && (x.no == y.no && (x.call.kind == y.call.kind && (x.call.name.toList == y.call.name.toList && (x.call.to_.toList == y.call.to_.toList && (x.call.text.toList == y.call.text.toList && (x.answer.code == y.answer.code && (x.answer.text.toList == y.answer.text.toList)))))))))) := by
  rw [Bool.eq_iff_iff]
  cases x; cases y
  simp [ba_eq, Call.ext_iff', Answer.ext_iff']
  try grind
theorem run_eql_Packet (x y : Packet) (w : World) : (binOp .eql 104 (.agg x.cells) (.agg y.cells)).run Try.prog w = .ok (.bool (decide (x = y))) w := by
  rw [eqn_Packet]
  unfold Packet.cells
  simp [go_sem]
  repeat' split
  all_goals simp_all
theorem run_neq_Packet (x y : Packet) (w : World) : (binOp .neq 104 (.agg x.cells) (.agg y.cells)).run Try.prog w = .ok (.bool (!decide (x = y))) w := by
  rw [eqn_Packet]
  unfold Packet.cells
  simp [go_sem]
  repeat' split
  all_goals simp_all
@[go_sem] theorem guard_Packet (op : BinOp) (a b : Operand) (x y : Packet) (w : World) : (eqGuard op 104 a b (.agg x.cells) (.agg y.cells)).run Try.prog w = .ok () w := run_eqGuard_agg w op 104 a b _ _ (by kernel_rfl)
theorem run_bs1_Packet_apiPacket (x : Packet) (w : World) : (Instr.buildSlice 66 1 #[(0, .agg x.cells)]).run Try.prog w = .ok (.slice (some ⟨w.heap.size, 0, none⟩) 1 1) (w.alloc (.cells x.cells 104)) := by
  unfold Packet.cells
  simp [go_sem]
theorem run_bs0_Packet_apiPacket (w : World) : (Instr.buildSlice 66 0 #[]).run Try.prog w = .ok (.slice (some ⟨w.heap.size, 0, none⟩) 0 0) (w.alloc (.cells #[] 104)) := by
  simp [go_sem]
@[go_sem] theorem eqlnil_Packet_apiPacket (a : Option Addr) (n c : Nat) (w : World) : (binOp .eql 66 (.slice a n c) (.slice none 0 0)).run Try.prog w = .ok (.bool a.isNone) w := Lib.run_eql_slice_nil w 66 104 a n c 0 0 Try.underlying66

/-! ### Record -/
theorem isRecord : IsType Try.prog 48 Record := ⟨⟨_, Try.underlying48⟩, by kernel_rfl⟩
theorem elemRecord : ElemOk Try.prog 48 Record 96 := ElemOk.mk' (n := 8) (by kernel_rfl) rfl (by decide)
theorem LV_Record {w : World} {a : Addr} {x : Record} (h : At w a x) : LV Try.prog 48 a w = .ok (.agg x.cells) w := LV_at isRecord h
@[go_sem] theorem LVb_Record (b o : Nat) (w : World) : LV Try.prog 48 ⟨b, o, none⟩ w = LVp Try.prog 48 b o w (objPart o 8 (w.heap[b]?)) := LVp_eq Try.underlying48 isRecord.size b o w
@[go_sem] theorem run_storeS_Record (x : Record) (b o : Nat) (w : World) : (storeS 48 (.pointer (some ⟨b, o, none⟩)) (.agg x.cells)).run Try.prog w = SVo Try.prog 48 8 b o x.cells w (w.heap[b]?) := SVo_eq isRecord.size (Lies.size_eq x) (Lies.one x) b o w
theorem eqn_Record (x y : Record) : decide (x = y) = ((x.client == y.client && (x.no == y.no && (x.call.kind == y.call.kind && (x.call.name.toList == y.call.name.toList && (x.call.to_.toList == y.call.to_.toList && (x.call.text.toList == y.call.text.toList && (x.answer.code == y.answer.code && (x.answer.text.toList == y.answer.text.toList))))))))) := by
  rw [Bool.eq_iff_iff]
  cases x; cases y
  simp [ba_eq, Call.ext_iff', Answer.ext_iff']
  try grind
theorem run_eql_Record (x y : Record) (w : World) : (binOp .eql 48 (.agg x.cells) (.agg y.cells)).run Try.prog w = .ok (.bool (decide (x = y))) w := by
  rw [eqn_Record]
  unfold Record.cells
  simp [go_sem]
  repeat' split
  all_goals simp_all
theorem run_neq_Record (x y : Record) (w : World) : (binOp .neq 48 (.agg x.cells) (.agg y.cells)).run Try.prog w = .ok (.bool (!decide (x = y))) w := by
  rw [eqn_Record]
  unfold Record.cells
  simp [go_sem]
  repeat' split
  all_goals simp_all
@[go_sem] theorem guard_Record (op : BinOp) (a b : Operand) (x y : Record) (w : World) : (eqGuard op 48 a b (.agg x.cells) (.agg y.cells)).run Try.prog w = .ok () w := run_eqGuard_agg w op 48 a b _ _ (by kernel_rfl)
theorem run_bs1_Record_apiRecord (x : Record) (w : World) : (Instr.buildSlice 34 1 #[(0, .agg x.cells)]).run Try.prog w = .ok (.slice (some ⟨w.heap.size, 0, none⟩) 1 1) (w.alloc (.cells x.cells 48)) := by
  unfold Record.cells
  simp [go_sem]
theorem run_bs0_Record_apiRecord (w : World) : (Instr.buildSlice 34 0 #[]).run Try.prog w = .ok (.slice (some ⟨w.heap.size, 0, none⟩) 0 0) (w.alloc (.cells #[] 48)) := by
  simp [go_sem]
@[go_sem] theorem eqlnil_Record_apiRecord (a : Option Addr) (n c : Nat) (w : World) : (binOp .eql 34 (.slice a n c) (.slice none 0 0)).run Try.prog w = .ok (.bool a.isNone) w := Lib.run_eql_slice_nil w 34 48 a n c 0 0 Try.underlying34

/-! ### PostStep -/

/-! ### ClientStep -/

/-! ### FileF -/
theorem isFileF : IsType Try.prog 102 FileD := ⟨⟨_, Try.underlying102⟩, by kernel_rfl⟩
theorem elemFileF : ElemOk Try.prog 102 FileD 32 := ElemOk.mk' (n := 2) (by kernel_rfl) rfl (by decide)
theorem LV_FileF {w : World} {a : Addr} {x : FileD} (h : At w a x) : LV Try.prog 102 a w = .ok (.agg x.cells) w := LV_at isFileF h
@[go_sem] theorem LVb_FileF (b o : Nat) (w : World) : LV Try.prog 102 ⟨b, o, none⟩ w = LVp Try.prog 102 b o w (objPart o 2 (w.heap[b]?)) := LVp_eq Try.underlying102 isFileF.size b o w
@[go_sem] theorem run_storeS_FileF (x : FileD) (b o : Nat) (w : World) : (storeS 102 (.pointer (some ⟨b, o, none⟩)) (.agg x.cells)).run Try.prog w = SVo Try.prog 102 2 b o x.cells w (w.heap[b]?) := SVo_eq isFileF.size (Lies.size_eq x) (Lies.one x) b o w
theorem run_bs1_FileF_filesfile (x : FileD) (w : World) : (Instr.buildSlice 98 1 #[(0, .agg x.cells)]).run Try.prog w = .ok (.slice (some ⟨w.heap.size, 0, none⟩) 1 1) (w.alloc (.cells x.cells 102)) := by
  unfold FileD.cells
  simp [go_sem]
theorem run_bs0_FileF_filesfile (w : World) : (Instr.buildSlice 98 0 #[]).run Try.prog w = .ok (.slice (some ⟨w.heap.size, 0, none⟩) 0 0) (w.alloc (.cells #[] 102)) := by
  simp [go_sem]
@[go_sem] theorem eqlnil_FileF_filesfile (a : Option Addr) (n c : Nat) (w : World) : (binOp .eql 98 (.slice a n c) (.slice none 0 0)).run Try.prog w = .ok (.bool a.isNone) w := Lib.run_eql_slice_nil w 98 102 a n c 0 0 Try.underlying98

/-! ### FileR -/
theorem isFileR : IsType Try.prog 97 FileD := ⟨⟨_, Try.underlying97⟩, by kernel_rfl⟩
theorem elemFileR : ElemOk Try.prog 97 FileD 32 := ElemOk.mk' (n := 2) (by kernel_rfl) rfl (by decide)
theorem LV_FileR {w : World} {a : Addr} {x : FileD} (h : At w a x) : LV Try.prog 97 a w = .ok (.agg x.cells) w := LV_at isFileR h
@[go_sem] theorem LVb_FileR (b o : Nat) (w : World) : LV Try.prog 97 ⟨b, o, none⟩ w = LVp Try.prog 97 b o w (objPart o 2 (w.heap[b]?)) := LVp_eq Try.underlying97 isFileR.size b o w
@[go_sem] theorem run_storeS_FileR (x : FileD) (b o : Nat) (w : World) : (storeS 97 (.pointer (some ⟨b, o, none⟩)) (.agg x.cells)).run Try.prog w = SVo Try.prog 97 2 b o x.cells w (w.heap[b]?) := SVo_eq isFileR.size (Lies.size_eq x) (Lies.one x) b o w
theorem run_bs1_FileR_postilionrefDrawer (x : FileD) (w : World) : (Instr.buildSlice 57 1 #[(0, .agg x.cells)]).run Try.prog w = .ok (.slice (some ⟨w.heap.size, 0, none⟩) 1 1) (w.alloc (.cells x.cells 97)) := by
  unfold FileD.cells
  simp [go_sem]
theorem run_bs0_FileR_postilionrefDrawer (w : World) : (Instr.buildSlice 57 0 #[]).run Try.prog w = .ok (.slice (some ⟨w.heap.size, 0, none⟩) 0 0) (w.alloc (.cells #[] 97)) := by
  simp [go_sem]
@[go_sem] theorem eqlnil_FileR_postilionrefDrawer (a : Option Addr) (n c : Nat) (w : World) : (binOp .eql 57 (.slice a n c) (.slice none 0 0)).run Try.prog w = .ok (.bool a.isNone) w := Lib.run_eql_slice_nil w 57 97 a n c 0 0 Try.underlying57

/-! ### StoreStep -/

/-! ### Step -/
theorem isStep : IsType Try.prog 32 Step := ⟨⟨_, Try.underlying32⟩, by kernel_rfl⟩
theorem elemStep : ElemOk Try.prog 32 Step 80 := ElemOk.mk' (n := 7) (by kernel_rfl) rfl (by decide)
theorem LV_Step {w : World} {a : Addr} {x : Step} (h : At w a x) : LV Try.prog 32 a w = .ok (.agg x.cells) w := LV_at isStep h
@[go_sem] theorem LVb_Step (b o : Nat) (w : World) : LV Try.prog 32 ⟨b, o, none⟩ w = LVp Try.prog 32 b o w (objPart o 7 (w.heap[b]?)) := LVp_eq Try.underlying32 isStep.size b o w
@[go_sem] theorem run_storeS_Step (x : Step) (b o : Nat) (w : World) : (storeS 32 (.pointer (some ⟨b, o, none⟩)) (.agg x.cells)).run Try.prog w = SVo Try.prog 32 7 b o x.cells w (w.heap[b]?) := SVo_eq isStep.size (Lies.size_eq x) (Lies.one x) b o w
theorem run_bs1_Step_apiStep (x : Step) (w : World) : (Instr.buildSlice 22 1 #[(0, .agg x.cells)]).run Try.prog w = .ok (.slice (some ⟨w.heap.size, 0, none⟩) 1 1) (w.alloc (.cells x.cells 32)) := by
  unfold Step.cells
  simp [go_sem]
theorem run_bs0_Step_apiStep (w : World) : (Instr.buildSlice 22 0 #[]).run Try.prog w = .ok (.slice (some ⟨w.heap.size, 0, none⟩) 0 0) (w.alloc (.cells #[] 32)) := by
  simp [go_sem]
@[go_sem] theorem eqlnil_Step_apiStep (a : Option Addr) (n c : Nat) (w : World) : (binOp .eql 22 (.slice a n c) (.slice none 0 0)).run Try.prog w = .ok (.bool a.isNone) w := Lib.run_eql_slice_nil w 22 32 a n c 0 0 Try.underlying22

theorem elemString : ElemOk Try.prog 9 ByteArray 16 := ElemOk.mk' (n := 1) (by kernel_rfl) rfl (by decide)
theorem elemByte : ElemOk Try.prog 5 UInt8 1 := ElemOk.mk' (n := 1) (by kernel_rfl) rfl (by decide)
theorem elemInt : ElemOk Try.prog 3 Int 8 := ElemOk.mk' (n := 1) (by kernel_rfl) rfl (by decide)
@[go_sem ↓] theorem load_Call (v : Value) : Instr.loadAt 30 v = loadS 30 v := rfl
@[go_sem ↓] theorem store_Call (a v : Value) : Instr.storeAt 30 a v = storeS 30 a v := rfl
@[go_sem] theorem fold_Call (x0 : Int) (x1 : ByteArray) (x2 : ByteArray) (x3 : ByteArray) : Obj.cells #[.int .i64 x0, .string x1, .string x2, .string x3] 30 (0, 0) = Obj.cells (Call.cells (⟨x0, x1, x2, x3⟩ : Call)) 30 (0, 0) := by unfold Call.cells; rfl
@[go_sem ↓] theorem bin_eql_Call (x y : Value) : binOp .eql 30 x y = binS .eql 30 x y := rfl
@[go_sem] theorem runS_eql_Call (x y : Call) (w : World) : (binS .eql 30 (.agg x.cells) (.agg y.cells)).run Try.prog w = .ok (.bool (decide (x = y))) w := run_eql_Call x y w
@[go_sem ↓] theorem bin_neq_Call (x y : Value) : binOp .neq 30 x y = binS .neq 30 x y := rfl
@[go_sem] theorem runS_neq_Call (x y : Call) (w : World) : (binS .neq 30 (.agg x.cells) (.agg y.cells)).run Try.prog w = .ok (.bool (!decide (x = y))) w := run_neq_Call x y w
@[go_sem] theorem runS_bs0_Call_apiCall (w : World) : (sliceS 27 0 #[]).run Try.prog w = .ok (.slice (some ⟨w.heap.size, 0, none⟩) 0 0) (w.alloc (.cells #[] 30)) := run_bs0_Call_apiCall w
@[go_sem ↓] theorem bs_Call_apiCall (n : Nat) (ps : Array (Nat × Value)) : Instr.buildSlice 27 n ps = sliceS 27 n ps := rfl
@[go_sem] theorem runS_bs1_Call_apiCall (x : Call) (w : World) : (sliceS 27 1 #[(0, .agg x.cells)]).run Try.prog w = .ok (.slice (some ⟨w.heap.size, 0, none⟩) 1 1) (w.alloc (.cells x.cells 30)) := run_bs1_Call_apiCall x w
@[go_sem ↓] theorem load_Answer (v : Value) : Instr.loadAt 46 v = loadS 46 v := rfl
@[go_sem ↓] theorem store_Answer (a v : Value) : Instr.storeAt 46 a v = storeS 46 a v := rfl
@[go_sem] theorem fold_Answer (x0 : Int) (x1 : ByteArray) : Obj.cells #[.int .i64 x0, .string x1] 46 (0, 0) = Obj.cells (Answer.cells (⟨x0, x1⟩ : Answer)) 46 (0, 0) := by unfold Answer.cells; rfl
@[go_sem ↓] theorem bin_eql_Answer (x y : Value) : binOp .eql 46 x y = binS .eql 46 x y := rfl
@[go_sem] theorem runS_eql_Answer (x y : Answer) (w : World) : (binS .eql 46 (.agg x.cells) (.agg y.cells)).run Try.prog w = .ok (.bool (decide (x = y))) w := run_eql_Answer x y w
@[go_sem ↓] theorem bin_neq_Answer (x y : Value) : binOp .neq 46 x y = binS .neq 46 x y := rfl
@[go_sem] theorem runS_neq_Answer (x y : Answer) (w : World) : (binS .neq 46 (.agg x.cells) (.agg y.cells)).run Try.prog w = .ok (.bool (!decide (x = y))) w := run_neq_Answer x y w
@[go_sem ↓] theorem load_Packet (v : Value) : Instr.loadAt 104 v = loadS 104 v := rfl
@[go_sem ↓] theorem store_Packet (a v : Value) : Instr.storeAt 104 a v = storeS 104 a v := rfl
@[go_sem] theorem fold_Packet (x0 : Bool) (x1 : Int) (x2 : Int) (x3 : Int) (x4 : ByteArray) (x5 : ByteArray) (x6 : ByteArray) (x7 : Int) (x8 : ByteArray) : Obj.cells #[.bool x0, .int .i64 x1, .int .i64 x2, .int .i64 x3, .string x4, .string x5, .string x6, .int .i64 x7, .string x8] 104 (0, 0) = Obj.cells (Packet.cells (⟨x0, x1, x2, ⟨x3, x4, x5, x6⟩, ⟨x7, x8⟩⟩ : Packet)) 104 (0, 0) := by unfold Packet.cells; rfl
@[go_sem ↓] theorem bin_eql_Packet (x y : Value) : binOp .eql 104 x y = binS .eql 104 x y := rfl
@[go_sem] theorem runS_eql_Packet (x y : Packet) (w : World) : (binS .eql 104 (.agg x.cells) (.agg y.cells)).run Try.prog w = .ok (.bool (decide (x = y))) w := run_eql_Packet x y w
@[go_sem ↓] theorem bin_neq_Packet (x y : Value) : binOp .neq 104 x y = binS .neq 104 x y := rfl
@[go_sem] theorem runS_neq_Packet (x y : Packet) (w : World) : (binS .neq 104 (.agg x.cells) (.agg y.cells)).run Try.prog w = .ok (.bool (!decide (x = y))) w := run_neq_Packet x y w
@[go_sem] theorem runS_bs0_Packet_apiPacket (w : World) : (sliceS 66 0 #[]).run Try.prog w = .ok (.slice (some ⟨w.heap.size, 0, none⟩) 0 0) (w.alloc (.cells #[] 104)) := run_bs0_Packet_apiPacket w
@[go_sem ↓] theorem bs_Packet_apiPacket (n : Nat) (ps : Array (Nat × Value)) : Instr.buildSlice 66 n ps = sliceS 66 n ps := rfl
@[go_sem] theorem runS_bs1_Packet_apiPacket (x : Packet) (w : World) : (sliceS 66 1 #[(0, .agg x.cells)]).run Try.prog w = .ok (.slice (some ⟨w.heap.size, 0, none⟩) 1 1) (w.alloc (.cells x.cells 104)) := run_bs1_Packet_apiPacket x w
@[go_sem ↓] theorem load_Record (v : Value) : Instr.loadAt 48 v = loadS 48 v := rfl
@[go_sem ↓] theorem store_Record (a v : Value) : Instr.storeAt 48 a v = storeS 48 a v := rfl
@[go_sem] theorem fold_Record (x0 : Int) (x1 : Int) (x2 : Int) (x3 : ByteArray) (x4 : ByteArray) (x5 : ByteArray) (x6 : Int) (x7 : ByteArray) : Obj.cells #[.int .i64 x0, .int .i64 x1, .int .i64 x2, .string x3, .string x4, .string x5, .int .i64 x6, .string x7] 48 (0, 0) = Obj.cells (Record.cells (⟨x0, x1, ⟨x2, x3, x4, x5⟩, ⟨x6, x7⟩⟩ : Record)) 48 (0, 0) := by unfold Record.cells; rfl
@[go_sem ↓] theorem bin_eql_Record (x y : Value) : binOp .eql 48 x y = binS .eql 48 x y := rfl
@[go_sem] theorem runS_eql_Record (x y : Record) (w : World) : (binS .eql 48 (.agg x.cells) (.agg y.cells)).run Try.prog w = .ok (.bool (decide (x = y))) w := run_eql_Record x y w
@[go_sem ↓] theorem bin_neq_Record (x y : Value) : binOp .neq 48 x y = binS .neq 48 x y := rfl
@[go_sem] theorem runS_neq_Record (x y : Record) (w : World) : (binS .neq 48 (.agg x.cells) (.agg y.cells)).run Try.prog w = .ok (.bool (!decide (x = y))) w := run_neq_Record x y w
@[go_sem] theorem runS_bs0_Record_apiRecord (w : World) : (sliceS 34 0 #[]).run Try.prog w = .ok (.slice (some ⟨w.heap.size, 0, none⟩) 0 0) (w.alloc (.cells #[] 48)) := run_bs0_Record_apiRecord w
@[go_sem ↓] theorem bs_Record_apiRecord (n : Nat) (ps : Array (Nat × Value)) : Instr.buildSlice 34 n ps = sliceS 34 n ps := rfl
@[go_sem] theorem runS_bs1_Record_apiRecord (x : Record) (w : World) : (sliceS 34 1 #[(0, .agg x.cells)]).run Try.prog w = .ok (.slice (some ⟨w.heap.size, 0, none⟩) 1 1) (w.alloc (.cells x.cells 48)) := run_bs1_Record_apiRecord x w
@[go_sem ↓] theorem load_FileF (v : Value) : Instr.loadAt 102 v = loadS 102 v := rfl
@[go_sem ↓] theorem store_FileF (a v : Value) : Instr.storeAt 102 a v = storeS 102 a v := rfl
@[go_sem] theorem fold_FileF (x0 : ByteArray) (x1 : ByteArray) : Obj.cells #[.string x0, .string x1] 102 (0, 0) = Obj.cells (FileD.cells (⟨x0, x1⟩ : FileD)) 102 (0, 0) := by unfold FileD.cells; rfl
@[go_sem] theorem runS_bs0_FileF_filesfile (w : World) : (sliceS 98 0 #[]).run Try.prog w = .ok (.slice (some ⟨w.heap.size, 0, none⟩) 0 0) (w.alloc (.cells #[] 102)) := run_bs0_FileF_filesfile w
@[go_sem ↓] theorem bs_FileF_filesfile (n : Nat) (ps : Array (Nat × Value)) : Instr.buildSlice 98 n ps = sliceS 98 n ps := rfl
@[go_sem] theorem runS_bs1_FileF_filesfile (x : FileD) (w : World) : (sliceS 98 1 #[(0, .agg x.cells)]).run Try.prog w = .ok (.slice (some ⟨w.heap.size, 0, none⟩) 1 1) (w.alloc (.cells x.cells 102)) := run_bs1_FileF_filesfile x w
@[go_sem ↓] theorem load_FileR (v : Value) : Instr.loadAt 97 v = loadS 97 v := rfl
@[go_sem ↓] theorem store_FileR (a v : Value) : Instr.storeAt 97 a v = storeS 97 a v := rfl
@[go_sem] theorem fold_FileR (x0 : ByteArray) (x1 : ByteArray) : Obj.cells #[.string x0, .string x1] 97 (0, 0) = Obj.cells (FileD.cells (⟨x0, x1⟩ : FileD)) 97 (0, 0) := by unfold FileD.cells; rfl
@[go_sem] theorem runS_bs0_FileR_postilionrefDrawer (w : World) : (sliceS 57 0 #[]).run Try.prog w = .ok (.slice (some ⟨w.heap.size, 0, none⟩) 0 0) (w.alloc (.cells #[] 97)) := run_bs0_FileR_postilionrefDrawer w
@[go_sem ↓] theorem bs_FileR_postilionrefDrawer (n : Nat) (ps : Array (Nat × Value)) : Instr.buildSlice 57 n ps = sliceS 57 n ps := rfl
@[go_sem] theorem runS_bs1_FileR_postilionrefDrawer (x : FileD) (w : World) : (sliceS 57 1 #[(0, .agg x.cells)]).run Try.prog w = .ok (.slice (some ⟨w.heap.size, 0, none⟩) 1 1) (w.alloc (.cells x.cells 97)) := run_bs1_FileR_postilionrefDrawer x w
@[go_sem ↓] theorem load_Step (v : Value) : Instr.loadAt 32 v = loadS 32 v := rfl
@[go_sem ↓] theorem store_Step (a v : Value) : Instr.storeAt 32 a v = storeS 32 a v := rfl
@[go_sem] theorem fold_Step (x0 : Int) (x1 : Int) (x2 : Int) (x3 : Int) (x4 : ByteArray) (x5 : ByteArray) (x6 : ByteArray) : Obj.cells #[.int .i64 x0, .int .i64 x1, .int .i64 x2, .int .i64 x3, .string x4, .string x5, .string x6] 32 (0, 0) = Obj.cells (Step.cells (⟨x0, x1, x2, ⟨x3, x4, x5, x6⟩⟩ : Step)) 32 (0, 0) := by unfold Step.cells; rfl
@[go_sem] theorem runS_bs0_Step_apiStep (w : World) : (sliceS 22 0 #[]).run Try.prog w = .ok (.slice (some ⟨w.heap.size, 0, none⟩) 0 0) (w.alloc (.cells #[] 32)) := run_bs0_Step_apiStep w
@[go_sem ↓] theorem bs_Step_apiStep (n : Nat) (ps : Array (Nat × Value)) : Instr.buildSlice 22 n ps = sliceS 22 n ps := rfl
@[go_sem] theorem runS_bs1_Step_apiStep (x : Step) (w : World) : (sliceS 22 1 #[(0, .agg x.cells)]).run Try.prog w = .ok (.slice (some ⟨w.heap.size, 0, none⟩) 1 1) (w.alloc (.cells x.cells 32)) := run_bs1_Step_apiStep x w
attribute [go_sem] Call.fold_agg Answer.fold_agg Packet.fold_agg Record.fold_agg PostStep.fold_agg ClientStep.fold_agg FileD.fold_agg StoreStep.fold_agg Step.fold_agg
end Go.Proofs.Ytalfbhhldfffkac
