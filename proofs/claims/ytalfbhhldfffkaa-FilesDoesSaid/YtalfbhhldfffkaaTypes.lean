/- Types: the rules by which the walk loads, stores and compares the structs of this program whole. Printed by gen_types.py. -/
import Derived.Test.YtalfbhhldfffkaaProg
import Derived.Test.YtalfbhhldfffkaaMem
import Derived.Lib.SliceRun
namespace Go.Proofs.Ytalfbhhldfffkaa
open Go.RowKit

/-! ### Call -/
theorem isCall : IsType Try.prog 29 Call := ⟨⟨_, Try.underlying29⟩, by kernel_rfl⟩
theorem elemCall : ElemOk Try.prog 29 Call 56 := ElemOk.mk' (n := 4) (by kernel_rfl) rfl (by decide)
theorem LV_Call {w : World} {a : Addr} {x : Call} (h : At w a x) : LV Try.prog 29 a w = .ok (.agg x.cells) w := LV_at isCall h
@[go_sem] theorem LVb_Call (b o : Nat) (w : World) : LV Try.prog 29 ⟨b, o, none⟩ w = LVp Try.prog 29 b o w (objPart o 4 (w.heap[b]?)) := LVp_eq Try.underlying29 isCall.size b o w
@[go_sem] theorem run_storeS_Call (x : Call) (b o : Nat) (w : World) : (storeS 29 (.pointer (some ⟨b, o, none⟩)) (.agg x.cells)).run Try.prog w = SVo Try.prog 29 4 b o x.cells w (w.heap[b]?) := SVo_eq isCall.size (Lies.size_eq x) (Lies.one x) b o w
theorem eqn_Call (x y : Call) : decide (x = y) = ((x.kind == y.kind && (x.name.toList == y.name.toList && (x.to_.toList == y.to_.toList && (x.text.toList == y.text.toList))))) := by
  rw [Bool.eq_iff_iff]
  cases x; cases y
  simp [ba_eq]
theorem run_eql_Call (x y : Call) (w : World) : (binOp .eql 29 (.agg x.cells) (.agg y.cells)).run Try.prog w = .ok (.bool (decide (x = y))) w := by
  rw [eqn_Call]
  unfold Call.cells
  simp [go_sem]
  repeat' split
  all_goals simp_all
theorem run_neq_Call (x y : Call) (w : World) : (binOp .neq 29 (.agg x.cells) (.agg y.cells)).run Try.prog w = .ok (.bool (!decide (x = y))) w := by
  rw [eqn_Call]
  unfold Call.cells
  simp [go_sem]
  repeat' split
  all_goals simp_all
@[go_sem] theorem guard_Call (op : BinOp) (a b : Operand) (x y : Call) (w : World) : (eqGuard op 29 a b (.agg x.cells) (.agg y.cells)).run Try.prog w = .ok () w := run_eqGuard_agg w op 29 a b _ _ (by kernel_rfl)
theorem run_bs1_Call_apiCall (x : Call) (w : World) : (Instr.buildSlice 80 1 #[(0, .agg x.cells)]).run Try.prog w = .ok (.slice (some ⟨w.heap.size, 0, none⟩) 1 1) (w.alloc (.cells x.cells 29)) := by
  unfold Call.cells
  simp [go_sem]
theorem run_bs0_Call_apiCall (w : World) : (Instr.buildSlice 80 0 #[]).run Try.prog w = .ok (.slice (some ⟨w.heap.size, 0, none⟩) 0 0) (w.alloc (.cells #[] 29)) := by
  simp [go_sem]
@[go_sem] theorem eqlnil_Call_apiCall (a : Option Addr) (n c : Nat) (w : World) : (binOp .eql 80 (.slice a n c) (.slice none 0 0)).run Try.prog w = .ok (.bool a.isNone) w := Lib.run_eql_slice_nil w 80 29 a n c 0 0 Try.underlying80

/-! ### Answer -/
theorem isAnswer : IsType Try.prog 31 Answer := ⟨⟨_, Try.underlying31⟩, by kernel_rfl⟩
theorem elemAnswer : ElemOk Try.prog 31 Answer 24 := ElemOk.mk' (n := 2) (by kernel_rfl) rfl (by decide)
theorem LV_Answer {w : World} {a : Addr} {x : Answer} (h : At w a x) : LV Try.prog 31 a w = .ok (.agg x.cells) w := LV_at isAnswer h
@[go_sem] theorem LVb_Answer (b o : Nat) (w : World) : LV Try.prog 31 ⟨b, o, none⟩ w = LVp Try.prog 31 b o w (objPart o 2 (w.heap[b]?)) := LVp_eq Try.underlying31 isAnswer.size b o w
@[go_sem] theorem run_storeS_Answer (x : Answer) (b o : Nat) (w : World) : (storeS 31 (.pointer (some ⟨b, o, none⟩)) (.agg x.cells)).run Try.prog w = SVo Try.prog 31 2 b o x.cells w (w.heap[b]?) := SVo_eq isAnswer.size (Lies.size_eq x) (Lies.one x) b o w
theorem eqn_Answer (x y : Answer) : decide (x = y) = ((x.code == y.code && (x.text.toList == y.text.toList))) := by
  rw [Bool.eq_iff_iff]
  cases x; cases y
  simp [ba_eq]
theorem run_eql_Answer (x y : Answer) (w : World) : (binOp .eql 31 (.agg x.cells) (.agg y.cells)).run Try.prog w = .ok (.bool (decide (x = y))) w := by
  rw [eqn_Answer]
  unfold Answer.cells
  simp [go_sem]
  repeat' split
  all_goals simp_all
theorem run_neq_Answer (x y : Answer) (w : World) : (binOp .neq 31 (.agg x.cells) (.agg y.cells)).run Try.prog w = .ok (.bool (!decide (x = y))) w := by
  rw [eqn_Answer]
  unfold Answer.cells
  simp [go_sem]
  repeat' split
  all_goals simp_all
@[go_sem] theorem guard_Answer (op : BinOp) (a b : Operand) (x y : Answer) (w : World) : (eqGuard op 31 a b (.agg x.cells) (.agg y.cells)).run Try.prog w = .ok () w := run_eqGuard_agg w op 31 a b _ _ (by kernel_rfl)

/-! ### Packet -/
theorem isPacket : IsType Try.prog 33 Packet := ⟨⟨_, Try.underlying33⟩, by kernel_rfl⟩
theorem elemPacket : ElemOk Try.prog 33 Packet 104 := ElemOk.mk' (n := 9) (by kernel_rfl) rfl (by decide)
theorem LV_Packet {w : World} {a : Addr} {x : Packet} (h : At w a x) : LV Try.prog 33 a w = .ok (.agg x.cells) w := LV_at isPacket h
@[go_sem] theorem LVb_Packet (b o : Nat) (w : World) : LV Try.prog 33 ⟨b, o, none⟩ w = LVp Try.prog 33 b o w (objPart o 9 (w.heap[b]?)) := LVp_eq Try.underlying33 isPacket.size b o w
@[go_sem] theorem run_storeS_Packet (x : Packet) (b o : Nat) (w : World) : (storeS 33 (.pointer (some ⟨b, o, none⟩)) (.agg x.cells)).run Try.prog w = SVo Try.prog 33 9 b o x.cells w (w.heap[b]?) := SVo_eq isPacket.size (Lies.size_eq x) (Lies.one x) b o w
theorem eqn_Packet (x y : Packet) : decide (x = y) = ((x.reply == y.reply && (x.client == y.client && (x.no == y.no && (x.call.kind == y.call.kind && (x.call.name.toList == y.call.name.toList && (x.call.to_.toList == y.call.to_.toList && (x.call.text.toList == y.call.text.toList && (x.answer.code == y.answer.code && (x.answer.text.toList == y.answer.text.toList)))))))))) := by
  rw [Bool.eq_iff_iff]
  cases x; cases y
  simp [ba_eq, Call.ext_iff', Answer.ext_iff']
  try grind
theorem run_eql_Packet (x y : Packet) (w : World) : (binOp .eql 33 (.agg x.cells) (.agg y.cells)).run Try.prog w = .ok (.bool (decide (x = y))) w := by
  rw [eqn_Packet]
  unfold Packet.cells
  simp [go_sem]
  repeat' split
  all_goals simp_all
theorem run_neq_Packet (x y : Packet) (w : World) : (binOp .neq 33 (.agg x.cells) (.agg y.cells)).run Try.prog w = .ok (.bool (!decide (x = y))) w := by
  rw [eqn_Packet]
  unfold Packet.cells
  simp [go_sem]
  repeat' split
  all_goals simp_all
@[go_sem] theorem guard_Packet (op : BinOp) (a b : Operand) (x y : Packet) (w : World) : (eqGuard op 33 a b (.agg x.cells) (.agg y.cells)).run Try.prog w = .ok () w := run_eqGuard_agg w op 33 a b _ _ (by kernel_rfl)
theorem run_bs1_Packet_apiPacket (x : Packet) (w : World) : (Instr.buildSlice 26 1 #[(0, .agg x.cells)]).run Try.prog w = .ok (.slice (some ⟨w.heap.size, 0, none⟩) 1 1) (w.alloc (.cells x.cells 33)) := by
  unfold Packet.cells
  simp [go_sem]
theorem run_bs0_Packet_apiPacket (w : World) : (Instr.buildSlice 26 0 #[]).run Try.prog w = .ok (.slice (some ⟨w.heap.size, 0, none⟩) 0 0) (w.alloc (.cells #[] 33)) := by
  simp [go_sem]
@[go_sem] theorem eqlnil_Packet_apiPacket (a : Option Addr) (n c : Nat) (w : World) : (binOp .eql 26 (.slice a n c) (.slice none 0 0)).run Try.prog w = .ok (.bool a.isNone) w := Lib.run_eql_slice_nil w 26 33 a n c 0 0 Try.underlying26
theorem run_bs1_Packet_postilionrefBag (x : Packet) (w : World) : (Instr.buildSlice 27 1 #[(0, .agg x.cells)]).run Try.prog w = .ok (.slice (some ⟨w.heap.size, 0, none⟩) 1 1) (w.alloc (.cells x.cells 33)) := by
  unfold Packet.cells
  simp [go_sem]
theorem run_bs0_Packet_postilionrefBag (w : World) : (Instr.buildSlice 27 0 #[]).run Try.prog w = .ok (.slice (some ⟨w.heap.size, 0, none⟩) 0 0) (w.alloc (.cells #[] 33)) := by
  simp [go_sem]
@[go_sem] theorem eqlnil_Packet_postilionrefBag (a : Option Addr) (n c : Nat) (w : World) : (binOp .eql 27 (.slice a n c) (.slice none 0 0)).run Try.prog w = .ok (.bool a.isNone) w := Lib.run_eql_slice_nil w 27 33 a n c 0 0 Try.underlying27

/-! ### Record -/
theorem isRecord : IsType Try.prog 63 Record := ⟨⟨_, Try.underlying63⟩, by kernel_rfl⟩
theorem elemRecord : ElemOk Try.prog 63 Record 96 := ElemOk.mk' (n := 8) (by kernel_rfl) rfl (by decide)
theorem LV_Record {w : World} {a : Addr} {x : Record} (h : At w a x) : LV Try.prog 63 a w = .ok (.agg x.cells) w := LV_at isRecord h
@[go_sem] theorem LVb_Record (b o : Nat) (w : World) : LV Try.prog 63 ⟨b, o, none⟩ w = LVp Try.prog 63 b o w (objPart o 8 (w.heap[b]?)) := LVp_eq Try.underlying63 isRecord.size b o w
@[go_sem] theorem run_storeS_Record (x : Record) (b o : Nat) (w : World) : (storeS 63 (.pointer (some ⟨b, o, none⟩)) (.agg x.cells)).run Try.prog w = SVo Try.prog 63 8 b o x.cells w (w.heap[b]?) := SVo_eq isRecord.size (Lies.size_eq x) (Lies.one x) b o w
theorem eqn_Record (x y : Record) : decide (x = y) = ((x.client == y.client && (x.no == y.no && (x.call.kind == y.call.kind && (x.call.name.toList == y.call.name.toList && (x.call.to_.toList == y.call.to_.toList && (x.call.text.toList == y.call.text.toList && (x.answer.code == y.answer.code && (x.answer.text.toList == y.answer.text.toList))))))))) := by
  rw [Bool.eq_iff_iff]
  cases x; cases y
  simp [ba_eq, Call.ext_iff', Answer.ext_iff']
  try grind
theorem run_eql_Record (x y : Record) (w : World) : (binOp .eql 63 (.agg x.cells) (.agg y.cells)).run Try.prog w = .ok (.bool (decide (x = y))) w := by
  rw [eqn_Record]
  unfold Record.cells
  simp [go_sem]
  repeat' split
  all_goals simp_all
theorem run_neq_Record (x y : Record) (w : World) : (binOp .neq 63 (.agg x.cells) (.agg y.cells)).run Try.prog w = .ok (.bool (!decide (x = y))) w := by
  rw [eqn_Record]
  unfold Record.cells
  simp [go_sem]
  repeat' split
  all_goals simp_all
@[go_sem] theorem guard_Record (op : BinOp) (a b : Operand) (x y : Record) (w : World) : (eqGuard op 63 a b (.agg x.cells) (.agg y.cells)).run Try.prog w = .ok () w := run_eqGuard_agg w op 63 a b _ _ (by kernel_rfl)
theorem run_bs1_Record_apiRecord (x : Record) (w : World) : (Instr.buildSlice 51 1 #[(0, .agg x.cells)]).run Try.prog w = .ok (.slice (some ⟨w.heap.size, 0, none⟩) 1 1) (w.alloc (.cells x.cells 63)) := by
  unfold Record.cells
  simp [go_sem]
theorem run_bs0_Record_apiRecord (w : World) : (Instr.buildSlice 51 0 #[]).run Try.prog w = .ok (.slice (some ⟨w.heap.size, 0, none⟩) 0 0) (w.alloc (.cells #[] 63)) := by
  simp [go_sem]
@[go_sem] theorem eqlnil_Record_apiRecord (a : Option Addr) (n c : Nat) (w : World) : (binOp .eql 51 (.slice a n c) (.slice none 0 0)).run Try.prog w = .ok (.bool a.isNone) w := Lib.run_eql_slice_nil w 51 63 a n c 0 0 Try.underlying51

/-! ### PostStep -/
theorem isPostStep : IsType Try.prog 35 PostStep := ⟨⟨_, Try.underlying35⟩, by kernel_rfl⟩
theorem elemPostStep : ElemOk Try.prog 35 PostStep 120 := ElemOk.mk' (n := 11) (by kernel_rfl) rfl (by decide)
theorem LV_PostStep {w : World} {a : Addr} {x : PostStep} (h : At w a x) : LV Try.prog 35 a w = .ok (.agg x.cells) w := LV_at isPostStep h
@[go_sem] theorem LVb_PostStep (b o : Nat) (w : World) : LV Try.prog 35 ⟨b, o, none⟩ w = LVp Try.prog 35 b o w (objPart o 11 (w.heap[b]?)) := LVp_eq Try.underlying35 isPostStep.size b o w
@[go_sem] theorem run_storeS_PostStep (x : PostStep) (b o : Nat) (w : World) : (storeS 35 (.pointer (some ⟨b, o, none⟩)) (.agg x.cells)).run Try.prog w = SVo Try.prog 35 11 b o x.cells w (w.heap[b]?) := SVo_eq isPostStep.size (Lies.size_eq x) (Lies.one x) b o w
theorem run_bs1_PostStep_postilionlawPostStep (x : PostStep) (w : World) : (Instr.buildSlice 22 1 #[(0, .agg x.cells)]).run Try.prog w = .ok (.slice (some ⟨w.heap.size, 0, none⟩) 1 1) (w.alloc (.cells x.cells 35)) := by
  unfold PostStep.cells
  simp [go_sem]
theorem run_bs0_PostStep_postilionlawPostStep (w : World) : (Instr.buildSlice 22 0 #[]).run Try.prog w = .ok (.slice (some ⟨w.heap.size, 0, none⟩) 0 0) (w.alloc (.cells #[] 35)) := by
  simp [go_sem]
@[go_sem] theorem eqlnil_PostStep_postilionlawPostStep (a : Option Addr) (n c : Nat) (w : World) : (binOp .eql 22 (.slice a n c) (.slice none 0 0)).run Try.prog w = .ok (.bool a.isNone) w := Lib.run_eql_slice_nil w 22 35 a n c 0 0 Try.underlying22

/-! ### ClientStep -/
theorem isClientStep : IsType Try.prog 56 ClientStep := ⟨⟨_, Try.underlying56⟩, by kernel_rfl⟩
theorem elemClientStep : ElemOk Try.prog 56 ClientStep 192 := ElemOk.mk' (n := 16) (by kernel_rfl) rfl (by decide)
theorem LV_ClientStep {w : World} {a : Addr} {x : ClientStep} (h : At w a x) : LV Try.prog 56 a w = .ok (.agg x.cells) w := LV_at isClientStep h
@[go_sem] theorem LVb_ClientStep (b o : Nat) (w : World) : LV Try.prog 56 ⟨b, o, none⟩ w = LVp Try.prog 56 b o w (objPart o 16 (w.heap[b]?)) := LVp_eq Try.underlying56 isClientStep.size b o w
@[go_sem] theorem run_storeS_ClientStep (x : ClientStep) (b o : Nat) (w : World) : (storeS 56 (.pointer (some ⟨b, o, none⟩)) (.agg x.cells)).run Try.prog w = SVo Try.prog 56 16 b o x.cells w (w.heap[b]?) := SVo_eq isClientStep.size (Lies.size_eq x) (Lies.one x) b o w
theorem run_bs1_ClientStep_postilionlawClientStep (x : ClientStep) (w : World) : (Instr.buildSlice 46 1 #[(0, .agg x.cells)]).run Try.prog w = .ok (.slice (some ⟨w.heap.size, 0, none⟩) 1 1) (w.alloc (.cells x.cells 56)) := by
  unfold ClientStep.cells
  simp [go_sem]
theorem run_bs0_ClientStep_postilionlawClientStep (w : World) : (Instr.buildSlice 46 0 #[]).run Try.prog w = .ok (.slice (some ⟨w.heap.size, 0, none⟩) 0 0) (w.alloc (.cells #[] 56)) := by
  simp [go_sem]
@[go_sem] theorem eqlnil_ClientStep_postilionlawClientStep (a : Option Addr) (n c : Nat) (w : World) : (binOp .eql 46 (.slice a n c) (.slice none 0 0)).run Try.prog w = .ok (.bool a.isNone) w := Lib.run_eql_slice_nil w 46 56 a n c 0 0 Try.underlying46

/-! ### FileF -/
theorem isFileF : IsType Try.prog 120 FileD := ⟨⟨_, Try.underlying120⟩, by kernel_rfl⟩
theorem elemFileF : ElemOk Try.prog 120 FileD 32 := ElemOk.mk' (n := 2) (by kernel_rfl) rfl (by decide)
theorem LV_FileF {w : World} {a : Addr} {x : FileD} (h : At w a x) : LV Try.prog 120 a w = .ok (.agg x.cells) w := LV_at isFileF h
@[go_sem] theorem LVb_FileF (b o : Nat) (w : World) : LV Try.prog 120 ⟨b, o, none⟩ w = LVp Try.prog 120 b o w (objPart o 2 (w.heap[b]?)) := LVp_eq Try.underlying120 isFileF.size b o w
@[go_sem] theorem run_storeS_FileF (x : FileD) (b o : Nat) (w : World) : (storeS 120 (.pointer (some ⟨b, o, none⟩)) (.agg x.cells)).run Try.prog w = SVo Try.prog 120 2 b o x.cells w (w.heap[b]?) := SVo_eq isFileF.size (Lies.size_eq x) (Lies.one x) b o w
theorem run_bs1_FileF_filesfile (x : FileD) (w : World) : (Instr.buildSlice 111 1 #[(0, .agg x.cells)]).run Try.prog w = .ok (.slice (some ⟨w.heap.size, 0, none⟩) 1 1) (w.alloc (.cells x.cells 120)) := by
  unfold FileD.cells
  simp [go_sem]
theorem run_bs0_FileF_filesfile (w : World) : (Instr.buildSlice 111 0 #[]).run Try.prog w = .ok (.slice (some ⟨w.heap.size, 0, none⟩) 0 0) (w.alloc (.cells #[] 120)) := by
  simp [go_sem]
@[go_sem] theorem eqlnil_FileF_filesfile (a : Option Addr) (n c : Nat) (w : World) : (binOp .eql 111 (.slice a n c) (.slice none 0 0)).run Try.prog w = .ok (.bool a.isNone) w := Lib.run_eql_slice_nil w 111 120 a n c 0 0 Try.underlying111

/-! ### FileR -/
theorem isFileR : IsType Try.prog 124 FileD := ⟨⟨_, Try.underlying124⟩, by kernel_rfl⟩
theorem elemFileR : ElemOk Try.prog 124 FileD 32 := ElemOk.mk' (n := 2) (by kernel_rfl) rfl (by decide)
theorem LV_FileR {w : World} {a : Addr} {x : FileD} (h : At w a x) : LV Try.prog 124 a w = .ok (.agg x.cells) w := LV_at isFileR h
@[go_sem] theorem LVb_FileR (b o : Nat) (w : World) : LV Try.prog 124 ⟨b, o, none⟩ w = LVp Try.prog 124 b o w (objPart o 2 (w.heap[b]?)) := LVp_eq Try.underlying124 isFileR.size b o w
@[go_sem] theorem run_storeS_FileR (x : FileD) (b o : Nat) (w : World) : (storeS 124 (.pointer (some ⟨b, o, none⟩)) (.agg x.cells)).run Try.prog w = SVo Try.prog 124 2 b o x.cells w (w.heap[b]?) := SVo_eq isFileR.size (Lies.size_eq x) (Lies.one x) b o w
theorem run_bs1_FileR_postilionrefDrawer (x : FileD) (w : World) : (Instr.buildSlice 86 1 #[(0, .agg x.cells)]).run Try.prog w = .ok (.slice (some ⟨w.heap.size, 0, none⟩) 1 1) (w.alloc (.cells x.cells 124)) := by
  unfold FileD.cells
  simp [go_sem]
theorem run_bs0_FileR_postilionrefDrawer (w : World) : (Instr.buildSlice 86 0 #[]).run Try.prog w = .ok (.slice (some ⟨w.heap.size, 0, none⟩) 0 0) (w.alloc (.cells #[] 124)) := by
  simp [go_sem]
@[go_sem] theorem eqlnil_FileR_postilionrefDrawer (a : Option Addr) (n c : Nat) (w : World) : (binOp .eql 86 (.slice a n c) (.slice none 0 0)).run Try.prog w = .ok (.bool a.isNone) w := Lib.run_eql_slice_nil w 86 124 a n c 0 0 Try.underlying86

/-! ### StoreStep -/

/-! ### Step -/

theorem elemString : ElemOk Try.prog 9 ByteArray 16 := ElemOk.mk' (n := 1) (by kernel_rfl) rfl (by decide)
theorem elemByte : ElemOk Try.prog 5 UInt8 1 := ElemOk.mk' (n := 1) (by kernel_rfl) rfl (by decide)
theorem elemInt : ElemOk Try.prog 3 Int 8 := ElemOk.mk' (n := 1) (by kernel_rfl) rfl (by decide)
@[go_sem ↓] theorem load_Call (v : Value) : Instr.loadAt 29 v = loadS 29 v := rfl
@[go_sem ↓] theorem store_Call (a v : Value) : Instr.storeAt 29 a v = storeS 29 a v := rfl
@[go_sem] theorem fold_Call (x0 : Int) (x1 : ByteArray) (x2 : ByteArray) (x3 : ByteArray) : Obj.cells #[.int .i64 x0, .string x1, .string x2, .string x3] 29 (0, 0) = Obj.cells (Call.cells (⟨x0, x1, x2, x3⟩ : Call)) 29 (0, 0) := by unfold Call.cells; rfl
@[go_sem ↓] theorem bin_eql_Call (x y : Value) : binOp .eql 29 x y = binS .eql 29 x y := rfl
@[go_sem] theorem runS_eql_Call (x y : Call) (w : World) : (binS .eql 29 (.agg x.cells) (.agg y.cells)).run Try.prog w = .ok (.bool (decide (x = y))) w := run_eql_Call x y w
@[go_sem ↓] theorem bin_neq_Call (x y : Value) : binOp .neq 29 x y = binS .neq 29 x y := rfl
@[go_sem] theorem runS_neq_Call (x y : Call) (w : World) : (binS .neq 29 (.agg x.cells) (.agg y.cells)).run Try.prog w = .ok (.bool (!decide (x = y))) w := run_neq_Call x y w
@[go_sem] theorem runS_bs0_Call_apiCall (w : World) : (sliceS 80 0 #[]).run Try.prog w = .ok (.slice (some ⟨w.heap.size, 0, none⟩) 0 0) (w.alloc (.cells #[] 29)) := run_bs0_Call_apiCall w
@[go_sem ↓] theorem bs_Call_apiCall (n : Nat) (ps : Array (Nat × Value)) : Instr.buildSlice 80 n ps = sliceS 80 n ps := rfl
@[go_sem] theorem runS_bs1_Call_apiCall (x : Call) (w : World) : (sliceS 80 1 #[(0, .agg x.cells)]).run Try.prog w = .ok (.slice (some ⟨w.heap.size, 0, none⟩) 1 1) (w.alloc (.cells x.cells 29)) := run_bs1_Call_apiCall x w
@[go_sem ↓] theorem load_Answer (v : Value) : Instr.loadAt 31 v = loadS 31 v := rfl
@[go_sem ↓] theorem store_Answer (a v : Value) : Instr.storeAt 31 a v = storeS 31 a v := rfl
@[go_sem] theorem fold_Answer (x0 : Int) (x1 : ByteArray) : Obj.cells #[.int .i64 x0, .string x1] 31 (0, 0) = Obj.cells (Answer.cells (⟨x0, x1⟩ : Answer)) 31 (0, 0) := by unfold Answer.cells; rfl
@[go_sem ↓] theorem bin_eql_Answer (x y : Value) : binOp .eql 31 x y = binS .eql 31 x y := rfl
@[go_sem] theorem runS_eql_Answer (x y : Answer) (w : World) : (binS .eql 31 (.agg x.cells) (.agg y.cells)).run Try.prog w = .ok (.bool (decide (x = y))) w := run_eql_Answer x y w
@[go_sem ↓] theorem bin_neq_Answer (x y : Value) : binOp .neq 31 x y = binS .neq 31 x y := rfl
@[go_sem] theorem runS_neq_Answer (x y : Answer) (w : World) : (binS .neq 31 (.agg x.cells) (.agg y.cells)).run Try.prog w = .ok (.bool (!decide (x = y))) w := run_neq_Answer x y w
@[go_sem ↓] theorem load_Packet (v : Value) : Instr.loadAt 33 v = loadS 33 v := rfl
@[go_sem ↓] theorem store_Packet (a v : Value) : Instr.storeAt 33 a v = storeS 33 a v := rfl
@[go_sem] theorem fold_Packet (x0 : Bool) (x1 : Int) (x2 : Int) (x3 : Int) (x4 : ByteArray) (x5 : ByteArray) (x6 : ByteArray) (x7 : Int) (x8 : ByteArray) : Obj.cells #[.bool x0, .int .i64 x1, .int .i64 x2, .int .i64 x3, .string x4, .string x5, .string x6, .int .i64 x7, .string x8] 33 (0, 0) = Obj.cells (Packet.cells (⟨x0, x1, x2, ⟨x3, x4, x5, x6⟩, ⟨x7, x8⟩⟩ : Packet)) 33 (0, 0) := by unfold Packet.cells; rfl
@[go_sem ↓] theorem bin_eql_Packet (x y : Value) : binOp .eql 33 x y = binS .eql 33 x y := rfl
@[go_sem] theorem runS_eql_Packet (x y : Packet) (w : World) : (binS .eql 33 (.agg x.cells) (.agg y.cells)).run Try.prog w = .ok (.bool (decide (x = y))) w := run_eql_Packet x y w
@[go_sem ↓] theorem bin_neq_Packet (x y : Value) : binOp .neq 33 x y = binS .neq 33 x y := rfl
@[go_sem] theorem runS_neq_Packet (x y : Packet) (w : World) : (binS .neq 33 (.agg x.cells) (.agg y.cells)).run Try.prog w = .ok (.bool (!decide (x = y))) w := run_neq_Packet x y w
@[go_sem] theorem runS_bs0_Packet_apiPacket (w : World) : (sliceS 26 0 #[]).run Try.prog w = .ok (.slice (some ⟨w.heap.size, 0, none⟩) 0 0) (w.alloc (.cells #[] 33)) := run_bs0_Packet_apiPacket w
@[go_sem ↓] theorem bs_Packet_apiPacket (n : Nat) (ps : Array (Nat × Value)) : Instr.buildSlice 26 n ps = sliceS 26 n ps := rfl
@[go_sem] theorem runS_bs1_Packet_apiPacket (x : Packet) (w : World) : (sliceS 26 1 #[(0, .agg x.cells)]).run Try.prog w = .ok (.slice (some ⟨w.heap.size, 0, none⟩) 1 1) (w.alloc (.cells x.cells 33)) := run_bs1_Packet_apiPacket x w
@[go_sem] theorem runS_bs0_Packet_postilionrefBag (w : World) : (sliceS 27 0 #[]).run Try.prog w = .ok (.slice (some ⟨w.heap.size, 0, none⟩) 0 0) (w.alloc (.cells #[] 33)) := run_bs0_Packet_postilionrefBag w
@[go_sem ↓] theorem bs_Packet_postilionrefBag (n : Nat) (ps : Array (Nat × Value)) : Instr.buildSlice 27 n ps = sliceS 27 n ps := rfl
@[go_sem] theorem runS_bs1_Packet_postilionrefBag (x : Packet) (w : World) : (sliceS 27 1 #[(0, .agg x.cells)]).run Try.prog w = .ok (.slice (some ⟨w.heap.size, 0, none⟩) 1 1) (w.alloc (.cells x.cells 33)) := run_bs1_Packet_postilionrefBag x w
@[go_sem ↓] theorem load_Record (v : Value) : Instr.loadAt 63 v = loadS 63 v := rfl
@[go_sem ↓] theorem store_Record (a v : Value) : Instr.storeAt 63 a v = storeS 63 a v := rfl
@[go_sem] theorem fold_Record (x0 : Int) (x1 : Int) (x2 : Int) (x3 : ByteArray) (x4 : ByteArray) (x5 : ByteArray) (x6 : Int) (x7 : ByteArray) : Obj.cells #[.int .i64 x0, .int .i64 x1, .int .i64 x2, .string x3, .string x4, .string x5, .int .i64 x6, .string x7] 63 (0, 0) = Obj.cells (Record.cells (⟨x0, x1, ⟨x2, x3, x4, x5⟩, ⟨x6, x7⟩⟩ : Record)) 63 (0, 0) := by unfold Record.cells; rfl
@[go_sem ↓] theorem bin_eql_Record (x y : Value) : binOp .eql 63 x y = binS .eql 63 x y := rfl
@[go_sem] theorem runS_eql_Record (x y : Record) (w : World) : (binS .eql 63 (.agg x.cells) (.agg y.cells)).run Try.prog w = .ok (.bool (decide (x = y))) w := run_eql_Record x y w
@[go_sem ↓] theorem bin_neq_Record (x y : Value) : binOp .neq 63 x y = binS .neq 63 x y := rfl
@[go_sem] theorem runS_neq_Record (x y : Record) (w : World) : (binS .neq 63 (.agg x.cells) (.agg y.cells)).run Try.prog w = .ok (.bool (!decide (x = y))) w := run_neq_Record x y w
@[go_sem] theorem runS_bs0_Record_apiRecord (w : World) : (sliceS 51 0 #[]).run Try.prog w = .ok (.slice (some ⟨w.heap.size, 0, none⟩) 0 0) (w.alloc (.cells #[] 63)) := run_bs0_Record_apiRecord w
@[go_sem ↓] theorem bs_Record_apiRecord (n : Nat) (ps : Array (Nat × Value)) : Instr.buildSlice 51 n ps = sliceS 51 n ps := rfl
@[go_sem] theorem runS_bs1_Record_apiRecord (x : Record) (w : World) : (sliceS 51 1 #[(0, .agg x.cells)]).run Try.prog w = .ok (.slice (some ⟨w.heap.size, 0, none⟩) 1 1) (w.alloc (.cells x.cells 63)) := run_bs1_Record_apiRecord x w
@[go_sem ↓] theorem load_PostStep (v : Value) : Instr.loadAt 35 v = loadS 35 v := rfl
@[go_sem ↓] theorem store_PostStep (a v : Value) : Instr.storeAt 35 a v = storeS 35 a v := rfl
@[go_sem] theorem fold_PostStep (x0 : Int) (x1 : Int) (x2 : Bool) (x3 : Int) (x4 : Int) (x5 : Int) (x6 : ByteArray) (x7 : ByteArray) (x8 : ByteArray) (x9 : Int) (x10 : ByteArray) : Obj.cells #[.int .i64 x0, .int .i64 x1, .bool x2, .int .i64 x3, .int .i64 x4, .int .i64 x5, .string x6, .string x7, .string x8, .int .i64 x9, .string x10] 35 (0, 0) = Obj.cells (PostStep.cells (⟨x0, x1, ⟨x2, x3, x4, ⟨x5, x6, x7, x8⟩, ⟨x9, x10⟩⟩⟩ : PostStep)) 35 (0, 0) := by unfold PostStep.cells; rfl
@[go_sem] theorem runS_bs0_PostStep_postilionlawPostStep (w : World) : (sliceS 22 0 #[]).run Try.prog w = .ok (.slice (some ⟨w.heap.size, 0, none⟩) 0 0) (w.alloc (.cells #[] 35)) := run_bs0_PostStep_postilionlawPostStep w
@[go_sem ↓] theorem bs_PostStep_postilionlawPostStep (n : Nat) (ps : Array (Nat × Value)) : Instr.buildSlice 22 n ps = sliceS 22 n ps := rfl
@[go_sem] theorem runS_bs1_PostStep_postilionlawPostStep (x : PostStep) (w : World) : (sliceS 22 1 #[(0, .agg x.cells)]).run Try.prog w = .ok (.slice (some ⟨w.heap.size, 0, none⟩) 1 1) (w.alloc (.cells x.cells 35)) := run_bs1_PostStep_postilionlawPostStep x w
@[go_sem ↓] theorem load_ClientStep (v : Value) : Instr.loadAt 56 v = loadS 56 v := rfl
@[go_sem ↓] theorem store_ClientStep (a v : Value) : Instr.storeAt 56 a v = storeS 56 a v := rfl
@[go_sem] theorem fold_ClientStep (x0 : Int) (x1 : Int) (x2 : ByteArray) (x3 : ByteArray) (x4 : ByteArray) (x5 : Bool) (x6 : Int) (x7 : Int) (x8 : Int) (x9 : ByteArray) (x10 : ByteArray) (x11 : ByteArray) (x12 : Int) (x13 : ByteArray) (x14 : Int) (x15 : ByteArray) : Obj.cells #[.int .i64 x0, .int .i64 x1, .string x2, .string x3, .string x4, .bool x5, .int .i64 x6, .int .i64 x7, .int .i64 x8, .string x9, .string x10, .string x11, .int .i64 x12, .string x13, .int .i64 x14, .string x15] 56 (0, 0) = Obj.cells (ClientStep.cells (⟨x0, ⟨x1, x2, x3, x4⟩, ⟨x5, x6, x7, ⟨x8, x9, x10, x11⟩, ⟨x12, x13⟩⟩, ⟨x14, x15⟩⟩ : ClientStep)) 56 (0, 0) := by unfold ClientStep.cells; rfl
@[go_sem] theorem runS_bs0_ClientStep_postilionlawClientStep (w : World) : (sliceS 46 0 #[]).run Try.prog w = .ok (.slice (some ⟨w.heap.size, 0, none⟩) 0 0) (w.alloc (.cells #[] 56)) := run_bs0_ClientStep_postilionlawClientStep w
@[go_sem ↓] theorem bs_ClientStep_postilionlawClientStep (n : Nat) (ps : Array (Nat × Value)) : Instr.buildSlice 46 n ps = sliceS 46 n ps := rfl
@[go_sem] theorem runS_bs1_ClientStep_postilionlawClientStep (x : ClientStep) (w : World) : (sliceS 46 1 #[(0, .agg x.cells)]).run Try.prog w = .ok (.slice (some ⟨w.heap.size, 0, none⟩) 1 1) (w.alloc (.cells x.cells 56)) := run_bs1_ClientStep_postilionlawClientStep x w
@[go_sem ↓] theorem load_FileF (v : Value) : Instr.loadAt 120 v = loadS 120 v := rfl
@[go_sem ↓] theorem store_FileF (a v : Value) : Instr.storeAt 120 a v = storeS 120 a v := rfl
@[go_sem] theorem fold_FileF (x0 : ByteArray) (x1 : ByteArray) : Obj.cells #[.string x0, .string x1] 120 (0, 0) = Obj.cells (FileD.cells (⟨x0, x1⟩ : FileD)) 120 (0, 0) := by unfold FileD.cells; rfl
@[go_sem] theorem runS_bs0_FileF_filesfile (w : World) : (sliceS 111 0 #[]).run Try.prog w = .ok (.slice (some ⟨w.heap.size, 0, none⟩) 0 0) (w.alloc (.cells #[] 120)) := run_bs0_FileF_filesfile w
@[go_sem ↓] theorem bs_FileF_filesfile (n : Nat) (ps : Array (Nat × Value)) : Instr.buildSlice 111 n ps = sliceS 111 n ps := rfl
@[go_sem] theorem runS_bs1_FileF_filesfile (x : FileD) (w : World) : (sliceS 111 1 #[(0, .agg x.cells)]).run Try.prog w = .ok (.slice (some ⟨w.heap.size, 0, none⟩) 1 1) (w.alloc (.cells x.cells 120)) := run_bs1_FileF_filesfile x w
@[go_sem ↓] theorem load_FileR (v : Value) : Instr.loadAt 124 v = loadS 124 v := rfl
@[go_sem ↓] theorem store_FileR (a v : Value) : Instr.storeAt 124 a v = storeS 124 a v := rfl
@[go_sem] theorem fold_FileR (x0 : ByteArray) (x1 : ByteArray) : Obj.cells #[.string x0, .string x1] 124 (0, 0) = Obj.cells (FileD.cells (⟨x0, x1⟩ : FileD)) 124 (0, 0) := by unfold FileD.cells; rfl
@[go_sem] theorem runS_bs0_FileR_postilionrefDrawer (w : World) : (sliceS 86 0 #[]).run Try.prog w = .ok (.slice (some ⟨w.heap.size, 0, none⟩) 0 0) (w.alloc (.cells #[] 124)) := run_bs0_FileR_postilionrefDrawer w
@[go_sem ↓] theorem bs_FileR_postilionrefDrawer (n : Nat) (ps : Array (Nat × Value)) : Instr.buildSlice 86 n ps = sliceS 86 n ps := rfl
@[go_sem] theorem runS_bs1_FileR_postilionrefDrawer (x : FileD) (w : World) : (sliceS 86 1 #[(0, .agg x.cells)]).run Try.prog w = .ok (.slice (some ⟨w.heap.size, 0, none⟩) 1 1) (w.alloc (.cells x.cells 124)) := run_bs1_FileR_postilionrefDrawer x w
attribute [go_sem] Call.fold_agg Answer.fold_agg Packet.fold_agg Record.fold_agg PostStep.fold_agg ClientStep.fold_agg FileD.fold_agg StoreStep.fold_agg Step.fold_agg
end Go.Proofs.Ytalfbhhldfffkaa
