/- Types: the rules by which the walk loads, stores and compares the structs of this program whole. Printed by gen_types.py. -/
import Derived.Test.YtalfbhhldfffkabGreatDoorProg
import Derived.Test.YtalfbhhldfffkabGreatDoorMem
import Derived.Lib.SliceRun
namespace Go.Proofs.YtalfbhhldfffkabGreatDoor
open Go.RowKit

/-! ### Call -/
theorem isCall : IsType Tryz.prog 59 Call := ⟨⟨_, Tryz.underlying59⟩, by kernel_rfl⟩
theorem elemCall : ElemOk Tryz.prog 59 Call 56 := ElemOk.mk' (n := 4) (by kernel_rfl) rfl (by decide)
theorem LV_Call {w : World} {a : Addr} {x : Call} (h : At w a x) : LV Tryz.prog 59 a w = .ok (.agg x.cells) w := LV_at isCall h
@[go_sem] theorem LVb_Call (b o : Nat) (w : World) : LV Tryz.prog 59 ⟨b, o, none⟩ w = LVp Tryz.prog 59 b o w (objPart o 4 (w.heap[b]?)) := LVp_eq Tryz.underlying59 isCall.size b o w
@[go_sem] theorem run_storeS_Call (x : Call) (b o : Nat) (w : World) : (storeS 59 (.pointer (some ⟨b, o, none⟩)) (.agg x.cells)).run Tryz.prog w = SVo Tryz.prog 59 4 b o x.cells w (w.heap[b]?) := SVo_eq isCall.size (Lies.size_eq x) (Lies.one x) b o w
theorem eqn_Call (x y : Call) : decide (x = y) = ((x.kind == y.kind && (x.name.toList == y.name.toList && (x.to_.toList == y.to_.toList && (x.text.toList == y.text.toList))))) := by
  rw [Bool.eq_iff_iff]
  cases x; cases y
  simp [ba_eq]
theorem run_eql_Call (x y : Call) (w : World) : (binOp .eql 59 (.agg x.cells) (.agg y.cells)).run Tryz.prog w = .ok (.bool (decide (x = y))) w := by
  rw [eqn_Call]
  unfold Call.cells
  simp [go_sem]
  repeat' split
  all_goals simp_all
theorem run_neq_Call (x y : Call) (w : World) : (binOp .neq 59 (.agg x.cells) (.agg y.cells)).run Tryz.prog w = .ok (.bool (!decide (x = y))) w := by
  rw [eqn_Call]
  unfold Call.cells
  simp [go_sem]
  repeat' split
  all_goals simp_all
@[go_sem] theorem guard_Call (op : BinOp) (a b : Operand) (x y : Call) (w : World) : (eqGuard op 59 a b (.agg x.cells) (.agg y.cells)).run Tryz.prog w = .ok () w := run_eqGuard_agg w op 59 a b _ _ (by kernel_rfl)

/-! ### Answer -/
theorem isAnswer : IsType Tryz.prog 75 Answer := ⟨⟨_, Tryz.underlying75⟩, by kernel_rfl⟩
theorem elemAnswer : ElemOk Tryz.prog 75 Answer 24 := ElemOk.mk' (n := 2) (by kernel_rfl) rfl (by decide)
theorem LV_Answer {w : World} {a : Addr} {x : Answer} (h : At w a x) : LV Tryz.prog 75 a w = .ok (.agg x.cells) w := LV_at isAnswer h
@[go_sem] theorem LVb_Answer (b o : Nat) (w : World) : LV Tryz.prog 75 ⟨b, o, none⟩ w = LVp Tryz.prog 75 b o w (objPart o 2 (w.heap[b]?)) := LVp_eq Tryz.underlying75 isAnswer.size b o w
@[go_sem] theorem run_storeS_Answer (x : Answer) (b o : Nat) (w : World) : (storeS 75 (.pointer (some ⟨b, o, none⟩)) (.agg x.cells)).run Tryz.prog w = SVo Tryz.prog 75 2 b o x.cells w (w.heap[b]?) := SVo_eq isAnswer.size (Lies.size_eq x) (Lies.one x) b o w
theorem eqn_Answer (x y : Answer) : decide (x = y) = ((x.code == y.code && (x.text.toList == y.text.toList))) := by
  rw [Bool.eq_iff_iff]
  cases x; cases y
  simp [ba_eq]
theorem run_eql_Answer (x y : Answer) (w : World) : (binOp .eql 75 (.agg x.cells) (.agg y.cells)).run Tryz.prog w = .ok (.bool (decide (x = y))) w := by
  rw [eqn_Answer]
  unfold Answer.cells
  simp [go_sem]
  repeat' split
  all_goals simp_all
theorem run_neq_Answer (x y : Answer) (w : World) : (binOp .neq 75 (.agg x.cells) (.agg y.cells)).run Tryz.prog w = .ok (.bool (!decide (x = y))) w := by
  rw [eqn_Answer]
  unfold Answer.cells
  simp [go_sem]
  repeat' split
  all_goals simp_all
@[go_sem] theorem guard_Answer (op : BinOp) (a b : Operand) (x y : Answer) (w : World) : (eqGuard op 75 a b (.agg x.cells) (.agg y.cells)).run Tryz.prog w = .ok () w := run_eqGuard_agg w op 75 a b _ _ (by kernel_rfl)

/-! ### Packet -/
theorem isPacket : IsType Tryz.prog 108 Packet := ⟨⟨_, Tryz.underlying108⟩, by kernel_rfl⟩
theorem elemPacket : ElemOk Tryz.prog 108 Packet 104 := ElemOk.mk' (n := 9) (by kernel_rfl) rfl (by decide)
theorem LV_Packet {w : World} {a : Addr} {x : Packet} (h : At w a x) : LV Tryz.prog 108 a w = .ok (.agg x.cells) w := LV_at isPacket h
@[go_sem] theorem LVb_Packet (b o : Nat) (w : World) : LV Tryz.prog 108 ⟨b, o, none⟩ w = LVp Tryz.prog 108 b o w (objPart o 9 (w.heap[b]?)) := LVp_eq Tryz.underlying108 isPacket.size b o w
@[go_sem] theorem run_storeS_Packet (x : Packet) (b o : Nat) (w : World) : (storeS 108 (.pointer (some ⟨b, o, none⟩)) (.agg x.cells)).run Tryz.prog w = SVo Tryz.prog 108 9 b o x.cells w (w.heap[b]?) := SVo_eq isPacket.size (Lies.size_eq x) (Lies.one x) b o w
theorem eqn_Packet (x y : Packet) : decide (x = y) = ((x.reply == y.reply && (x.client == y.client && (x.no == y.no && (x.call.kind == y.call.kind && (x.call.name.toList == y.call.name.toList && (x.call.to_.toList == y.call.to_.toList && (x.call.text.toList == y.call.text.toList && (x.answer.code == y.answer.code && (x.answer.text.toList == y.answer.text.toList)))))))))) := by
  rw [Bool.eq_iff_iff]
  cases x; cases y
  simp [ba_eq, Call.ext_iff', Answer.ext_iff']
  try grind
theorem run_eql_Packet (x y : Packet) (w : World) : (binOp .eql 108 (.agg x.cells) (.agg y.cells)).run Tryz.prog w = .ok (.bool (decide (x = y))) w := by
  rw [eqn_Packet]
  unfold Packet.cells
  simp [go_sem]
  repeat' split
  all_goals simp_all
theorem run_neq_Packet (x y : Packet) (w : World) : (binOp .neq 108 (.agg x.cells) (.agg y.cells)).run Tryz.prog w = .ok (.bool (!decide (x = y))) w := by
  rw [eqn_Packet]
  unfold Packet.cells
  simp [go_sem]
  repeat' split
  all_goals simp_all
@[go_sem] theorem guard_Packet (op : BinOp) (a b : Operand) (x y : Packet) (w : World) : (eqGuard op 108 a b (.agg x.cells) (.agg y.cells)).run Tryz.prog w = .ok () w := run_eqGuard_agg w op 108 a b _ _ (by kernel_rfl)
theorem run_bs1_Packet_apiPacket (x : Packet) (w : World) : (Instr.buildSlice 81 1 #[(0, .agg x.cells)]).run Tryz.prog w = .ok (.slice (some ⟨w.heap.size, 0, none⟩) 1 1) (w.alloc (.cells x.cells 108)) := by
  unfold Packet.cells
  simp [go_sem]
theorem run_bs0_Packet_apiPacket (w : World) : (Instr.buildSlice 81 0 #[]).run Tryz.prog w = .ok (.slice (some ⟨w.heap.size, 0, none⟩) 0 0) (w.alloc (.cells #[] 108)) := by
  simp [go_sem]
@[go_sem] theorem eqlnil_Packet_apiPacket (a : Option Addr) (n c : Nat) (w : World) : (binOp .eql 81 (.slice a n c) (.slice none 0 0)).run Tryz.prog w = .ok (.bool a.isNone) w := Lib.run_eql_slice_nil w 81 108 a n c 0 0 Tryz.underlying81

/-! ### Record -/
theorem isRecord : IsType Tryz.prog 77 Record := ⟨⟨_, Tryz.underlying77⟩, by kernel_rfl⟩
theorem elemRecord : ElemOk Tryz.prog 77 Record 96 := ElemOk.mk' (n := 8) (by kernel_rfl) rfl (by decide)
theorem LV_Record {w : World} {a : Addr} {x : Record} (h : At w a x) : LV Tryz.prog 77 a w = .ok (.agg x.cells) w := LV_at isRecord h
@[go_sem] theorem LVb_Record (b o : Nat) (w : World) : LV Tryz.prog 77 ⟨b, o, none⟩ w = LVp Tryz.prog 77 b o w (objPart o 8 (w.heap[b]?)) := LVp_eq Tryz.underlying77 isRecord.size b o w
@[go_sem] theorem run_storeS_Record (x : Record) (b o : Nat) (w : World) : (storeS 77 (.pointer (some ⟨b, o, none⟩)) (.agg x.cells)).run Tryz.prog w = SVo Tryz.prog 77 8 b o x.cells w (w.heap[b]?) := SVo_eq isRecord.size (Lies.size_eq x) (Lies.one x) b o w
theorem eqn_Record (x y : Record) : decide (x = y) = ((x.client == y.client && (x.no == y.no && (x.call.kind == y.call.kind && (x.call.name.toList == y.call.name.toList && (x.call.to_.toList == y.call.to_.toList && (x.call.text.toList == y.call.text.toList && (x.answer.code == y.answer.code && (x.answer.text.toList == y.answer.text.toList))))))))) := by
  rw [Bool.eq_iff_iff]
  cases x; cases y
  simp [ba_eq, Call.ext_iff', Answer.ext_iff']
  try grind
theorem run_eql_Record (x y : Record) (w : World) : (binOp .eql 77 (.agg x.cells) (.agg y.cells)).run Tryz.prog w = .ok (.bool (decide (x = y))) w := by
  rw [eqn_Record]
  unfold Record.cells
  simp [go_sem]
  repeat' split
  all_goals simp_all
theorem run_neq_Record (x y : Record) (w : World) : (binOp .neq 77 (.agg x.cells) (.agg y.cells)).run Tryz.prog w = .ok (.bool (!decide (x = y))) w := by
  rw [eqn_Record]
  unfold Record.cells
  simp [go_sem]
  repeat' split
  all_goals simp_all
@[go_sem] theorem guard_Record (op : BinOp) (a b : Operand) (x y : Record) (w : World) : (eqGuard op 77 a b (.agg x.cells) (.agg y.cells)).run Tryz.prog w = .ok () w := run_eqGuard_agg w op 77 a b _ _ (by kernel_rfl)
theorem run_bs1_Record_apiRecord (x : Record) (w : World) : (Instr.buildSlice 84 1 #[(0, .agg x.cells)]).run Tryz.prog w = .ok (.slice (some ⟨w.heap.size, 0, none⟩) 1 1) (w.alloc (.cells x.cells 77)) := by
  unfold Record.cells
  simp [go_sem]
theorem run_bs0_Record_apiRecord (w : World) : (Instr.buildSlice 84 0 #[]).run Tryz.prog w = .ok (.slice (some ⟨w.heap.size, 0, none⟩) 0 0) (w.alloc (.cells #[] 77)) := by
  simp [go_sem]
@[go_sem] theorem eqlnil_Record_apiRecord (a : Option Addr) (n c : Nat) (w : World) : (binOp .eql 84 (.slice a n c) (.slice none 0 0)).run Tryz.prog w = .ok (.bool a.isNone) w := Lib.run_eql_slice_nil w 84 77 a n c 0 0 Tryz.underlying84

/-! ### PostStep -/

/-! ### ClientStep -/

/-! ### FileF -/
theorem isFileF : IsType Tryz.prog 180 FileD := ⟨⟨_, Tryz.underlying180⟩, by kernel_rfl⟩
theorem elemFileF : ElemOk Tryz.prog 180 FileD 32 := ElemOk.mk' (n := 2) (by kernel_rfl) rfl (by decide)
theorem LV_FileF {w : World} {a : Addr} {x : FileD} (h : At w a x) : LV Tryz.prog 180 a w = .ok (.agg x.cells) w := LV_at isFileF h
@[go_sem] theorem LVb_FileF (b o : Nat) (w : World) : LV Tryz.prog 180 ⟨b, o, none⟩ w = LVp Tryz.prog 180 b o w (objPart o 2 (w.heap[b]?)) := LVp_eq Tryz.underlying180 isFileF.size b o w
@[go_sem] theorem run_storeS_FileF (x : FileD) (b o : Nat) (w : World) : (storeS 180 (.pointer (some ⟨b, o, none⟩)) (.agg x.cells)).run Tryz.prog w = SVo Tryz.prog 180 2 b o x.cells w (w.heap[b]?) := SVo_eq isFileF.size (Lies.size_eq x) (Lies.one x) b o w
theorem run_bs1_FileF_filesfile (x : FileD) (w : World) : (Instr.buildSlice 100 1 #[(0, .agg x.cells)]).run Tryz.prog w = .ok (.slice (some ⟨w.heap.size, 0, none⟩) 1 1) (w.alloc (.cells x.cells 180)) := by
  unfold FileD.cells
  simp [go_sem]
theorem run_bs0_FileF_filesfile (w : World) : (Instr.buildSlice 100 0 #[]).run Tryz.prog w = .ok (.slice (some ⟨w.heap.size, 0, none⟩) 0 0) (w.alloc (.cells #[] 180)) := by
  simp [go_sem]
@[go_sem] theorem eqlnil_FileF_filesfile (a : Option Addr) (n c : Nat) (w : World) : (binOp .eql 100 (.slice a n c) (.slice none 0 0)).run Tryz.prog w = .ok (.bool a.isNone) w := Lib.run_eql_slice_nil w 100 180 a n c 0 0 Tryz.underlying100

/-! ### FileR -/

/-! ### StoreStep -/

/-! ### Step -/
theorem isStep : IsType Tryz.prog 66 Step := ⟨⟨_, Tryz.underlying66⟩, by kernel_rfl⟩
theorem elemStep : ElemOk Tryz.prog 66 Step 80 := ElemOk.mk' (n := 7) (by kernel_rfl) rfl (by decide)
theorem LV_Step {w : World} {a : Addr} {x : Step} (h : At w a x) : LV Tryz.prog 66 a w = .ok (.agg x.cells) w := LV_at isStep h
@[go_sem] theorem LVb_Step (b o : Nat) (w : World) : LV Tryz.prog 66 ⟨b, o, none⟩ w = LVp Tryz.prog 66 b o w (objPart o 7 (w.heap[b]?)) := LVp_eq Tryz.underlying66 isStep.size b o w
@[go_sem] theorem run_storeS_Step (x : Step) (b o : Nat) (w : World) : (storeS 66 (.pointer (some ⟨b, o, none⟩)) (.agg x.cells)).run Tryz.prog w = SVo Tryz.prog 66 7 b o x.cells w (w.heap[b]?) := SVo_eq isStep.size (Lies.size_eq x) (Lies.one x) b o w

theorem elemString : ElemOk Tryz.prog 9 ByteArray 16 := ElemOk.mk' (n := 1) (by kernel_rfl) rfl (by decide)
theorem elemByte : ElemOk Tryz.prog 5 UInt8 1 := ElemOk.mk' (n := 1) (by kernel_rfl) rfl (by decide)
theorem elemInt : ElemOk Tryz.prog 3 Int 8 := ElemOk.mk' (n := 1) (by kernel_rfl) rfl (by decide)
@[go_sem ↓] theorem load_Call (v : Value) : Instr.loadAt 59 v = loadS 59 v := rfl
@[go_sem ↓] theorem store_Call (a v : Value) : Instr.storeAt 59 a v = storeS 59 a v := rfl
@[go_sem] theorem fold_Call (x0 : Int) (x1 : ByteArray) (x2 : ByteArray) (x3 : ByteArray) : Obj.cells #[.int .i64 x0, .string x1, .string x2, .string x3] 59 (0, 0) = Obj.cells (Call.cells (⟨x0, x1, x2, x3⟩ : Call)) 59 (0, 0) := by unfold Call.cells; rfl
@[go_sem ↓] theorem bin_eql_Call (x y : Value) : binOp .eql 59 x y = binS .eql 59 x y := rfl
@[go_sem] theorem runS_eql_Call (x y : Call) (w : World) : (binS .eql 59 (.agg x.cells) (.agg y.cells)).run Tryz.prog w = .ok (.bool (decide (x = y))) w := run_eql_Call x y w
@[go_sem ↓] theorem bin_neq_Call (x y : Value) : binOp .neq 59 x y = binS .neq 59 x y := rfl
@[go_sem] theorem runS_neq_Call (x y : Call) (w : World) : (binS .neq 59 (.agg x.cells) (.agg y.cells)).run Tryz.prog w = .ok (.bool (!decide (x = y))) w := run_neq_Call x y w
@[go_sem ↓] theorem load_Answer (v : Value) : Instr.loadAt 75 v = loadS 75 v := rfl
@[go_sem ↓] theorem store_Answer (a v : Value) : Instr.storeAt 75 a v = storeS 75 a v := rfl
@[go_sem] theorem fold_Answer (x0 : Int) (x1 : ByteArray) : Obj.cells #[.int .i64 x0, .string x1] 75 (0, 0) = Obj.cells (Answer.cells (⟨x0, x1⟩ : Answer)) 75 (0, 0) := by unfold Answer.cells; rfl
@[go_sem ↓] theorem bin_eql_Answer (x y : Value) : binOp .eql 75 x y = binS .eql 75 x y := rfl
@[go_sem] theorem runS_eql_Answer (x y : Answer) (w : World) : (binS .eql 75 (.agg x.cells) (.agg y.cells)).run Tryz.prog w = .ok (.bool (decide (x = y))) w := run_eql_Answer x y w
@[go_sem ↓] theorem bin_neq_Answer (x y : Value) : binOp .neq 75 x y = binS .neq 75 x y := rfl
@[go_sem] theorem runS_neq_Answer (x y : Answer) (w : World) : (binS .neq 75 (.agg x.cells) (.agg y.cells)).run Tryz.prog w = .ok (.bool (!decide (x = y))) w := run_neq_Answer x y w
@[go_sem ↓] theorem load_Packet (v : Value) : Instr.loadAt 108 v = loadS 108 v := rfl
@[go_sem ↓] theorem store_Packet (a v : Value) : Instr.storeAt 108 a v = storeS 108 a v := rfl
@[go_sem] theorem fold_Packet (x0 : Bool) (x1 : Int) (x2 : Int) (x3 : Int) (x4 : ByteArray) (x5 : ByteArray) (x6 : ByteArray) (x7 : Int) (x8 : ByteArray) : Obj.cells #[.bool x0, .int .i64 x1, .int .i64 x2, .int .i64 x3, .string x4, .string x5, .string x6, .int .i64 x7, .string x8] 108 (0, 0) = Obj.cells (Packet.cells (⟨x0, x1, x2, ⟨x3, x4, x5, x6⟩, ⟨x7, x8⟩⟩ : Packet)) 108 (0, 0) := by unfold Packet.cells; rfl
@[go_sem ↓] theorem bin_eql_Packet (x y : Value) : binOp .eql 108 x y = binS .eql 108 x y := rfl
@[go_sem] theorem runS_eql_Packet (x y : Packet) (w : World) : (binS .eql 108 (.agg x.cells) (.agg y.cells)).run Tryz.prog w = .ok (.bool (decide (x = y))) w := run_eql_Packet x y w
@[go_sem ↓] theorem bin_neq_Packet (x y : Value) : binOp .neq 108 x y = binS .neq 108 x y := rfl
@[go_sem] theorem runS_neq_Packet (x y : Packet) (w : World) : (binS .neq 108 (.agg x.cells) (.agg y.cells)).run Tryz.prog w = .ok (.bool (!decide (x = y))) w := run_neq_Packet x y w
@[go_sem] theorem runS_bs0_Packet_apiPacket (w : World) : (sliceS 81 0 #[]).run Tryz.prog w = .ok (.slice (some ⟨w.heap.size, 0, none⟩) 0 0) (w.alloc (.cells #[] 108)) := run_bs0_Packet_apiPacket w
@[go_sem ↓] theorem bs_Packet_apiPacket (n : Nat) (ps : Array (Nat × Value)) : Instr.buildSlice 81 n ps = sliceS 81 n ps := rfl
@[go_sem] theorem runS_bs1_Packet_apiPacket (x : Packet) (w : World) : (sliceS 81 1 #[(0, .agg x.cells)]).run Tryz.prog w = .ok (.slice (some ⟨w.heap.size, 0, none⟩) 1 1) (w.alloc (.cells x.cells 108)) := run_bs1_Packet_apiPacket x w
@[go_sem ↓] theorem load_Record (v : Value) : Instr.loadAt 77 v = loadS 77 v := rfl
@[go_sem ↓] theorem store_Record (a v : Value) : Instr.storeAt 77 a v = storeS 77 a v := rfl
@[go_sem] theorem fold_Record (x0 : Int) (x1 : Int) (x2 : Int) (x3 : ByteArray) (x4 : ByteArray) (x5 : ByteArray) (x6 : Int) (x7 : ByteArray) : Obj.cells #[.int .i64 x0, .int .i64 x1, .int .i64 x2, .string x3, .string x4, .string x5, .int .i64 x6, .string x7] 77 (0, 0) = Obj.cells (Record.cells (⟨x0, x1, ⟨x2, x3, x4, x5⟩, ⟨x6, x7⟩⟩ : Record)) 77 (0, 0) := by unfold Record.cells; rfl
@[go_sem ↓] theorem bin_eql_Record (x y : Value) : binOp .eql 77 x y = binS .eql 77 x y := rfl
@[go_sem] theorem runS_eql_Record (x y : Record) (w : World) : (binS .eql 77 (.agg x.cells) (.agg y.cells)).run Tryz.prog w = .ok (.bool (decide (x = y))) w := run_eql_Record x y w
@[go_sem ↓] theorem bin_neq_Record (x y : Value) : binOp .neq 77 x y = binS .neq 77 x y := rfl
@[go_sem] theorem runS_neq_Record (x y : Record) (w : World) : (binS .neq 77 (.agg x.cells) (.agg y.cells)).run Tryz.prog w = .ok (.bool (!decide (x = y))) w := run_neq_Record x y w
@[go_sem] theorem runS_bs0_Record_apiRecord (w : World) : (sliceS 84 0 #[]).run Tryz.prog w = .ok (.slice (some ⟨w.heap.size, 0, none⟩) 0 0) (w.alloc (.cells #[] 77)) := run_bs0_Record_apiRecord w
@[go_sem ↓] theorem bs_Record_apiRecord (n : Nat) (ps : Array (Nat × Value)) : Instr.buildSlice 84 n ps = sliceS 84 n ps := rfl
@[go_sem] theorem runS_bs1_Record_apiRecord (x : Record) (w : World) : (sliceS 84 1 #[(0, .agg x.cells)]).run Tryz.prog w = .ok (.slice (some ⟨w.heap.size, 0, none⟩) 1 1) (w.alloc (.cells x.cells 77)) := run_bs1_Record_apiRecord x w
@[go_sem ↓] theorem load_FileF (v : Value) : Instr.loadAt 180 v = loadS 180 v := rfl
@[go_sem ↓] theorem store_FileF (a v : Value) : Instr.storeAt 180 a v = storeS 180 a v := rfl
@[go_sem] theorem fold_FileF (x0 : ByteArray) (x1 : ByteArray) : Obj.cells #[.string x0, .string x1] 180 (0, 0) = Obj.cells (FileD.cells (⟨x0, x1⟩ : FileD)) 180 (0, 0) := by unfold FileD.cells; rfl
@[go_sem] theorem runS_bs0_FileF_filesfile (w : World) : (sliceS 100 0 #[]).run Tryz.prog w = .ok (.slice (some ⟨w.heap.size, 0, none⟩) 0 0) (w.alloc (.cells #[] 180)) := run_bs0_FileF_filesfile w
@[go_sem ↓] theorem bs_FileF_filesfile (n : Nat) (ps : Array (Nat × Value)) : Instr.buildSlice 100 n ps = sliceS 100 n ps := rfl
@[go_sem] theorem runS_bs1_FileF_filesfile (x : FileD) (w : World) : (sliceS 100 1 #[(0, .agg x.cells)]).run Tryz.prog w = .ok (.slice (some ⟨w.heap.size, 0, none⟩) 1 1) (w.alloc (.cells x.cells 180)) := run_bs1_FileF_filesfile x w
@[go_sem ↓] theorem load_Step (v : Value) : Instr.loadAt 66 v = loadS 66 v := rfl
@[go_sem ↓] theorem store_Step (a v : Value) : Instr.storeAt 66 a v = storeS 66 a v := rfl
@[go_sem] theorem fold_Step (x0 : Int) (x1 : Int) (x2 : Int) (x3 : Int) (x4 : ByteArray) (x5 : ByteArray) (x6 : ByteArray) : Obj.cells #[.int .i64 x0, .int .i64 x1, .int .i64 x2, .int .i64 x3, .string x4, .string x5, .string x6] 66 (0, 0) = Obj.cells (Step.cells (⟨x0, x1, x2, ⟨x3, x4, x5, x6⟩⟩ : Step)) 66 (0, 0) := by unfold Step.cells; rfl
attribute [go_sem] Call.fold_agg Answer.fold_agg Packet.fold_agg Record.fold_agg PostStep.fold_agg ClientStep.fold_agg FileD.fold_agg StoreStep.fold_agg Step.fold_agg
end Go.Proofs.YtalfbhhldfffkabGreatDoor
