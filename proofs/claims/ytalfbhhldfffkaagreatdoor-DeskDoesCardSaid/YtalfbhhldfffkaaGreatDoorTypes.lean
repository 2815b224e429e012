/- Types: the rules by which the walk loads, stores and compares the structs of this program whole. Printed by gen_types.py. -/
import Derived.Test.YtalfbhhldfffkaaGreatDoorProg
import Derived.Test.YtalfbhhldfffkaaGreatDoorMem
import Derived.Lib.SliceRun
set_option maxHeartbeats 8000000
set_option maxRecDepth 100000
namespace Go.Proofs.YtalfbhhldfffkaaGreatDoor
open Go.RowKit
theorem isCall : IsType Tryz.prog 66 Call := ⟨⟨_, Tryz.underlying66⟩, by kernel_rfl⟩
@[go_sem] theorem LVb_Call (b o : Nat) (w : World) : LV Tryz.prog 66 ⟨b, o, none⟩ w = LVp Tryz.prog 66 b o w (objPart o 4 (w.heap[b]?)) := LVp_eq Tryz.underlying66 isCall.size b o w
@[go_sem] theorem run_storeS_Call (x : Call) (b o : Nat) (w : World) : (storeS 66 (.pointer (some ⟨b, o, none⟩)) (.agg x.cells)).run Tryz.prog w = SVo Tryz.prog 66 4 b o x.cells w (w.heap[b]?) := SVo_eq isCall.size (Lies.size_eq x) (Lies.one x) b o w
theorem eqn_Call (x y : Call) : decide (x = y) = ((x.kind == y.kind && (x.name.toList == y.name.toList && (x.to_.toList == y.to_.toList && (x.text.toList == y.text.toList))))) := by
 rw [Bool.eq_iff_iff];cases x; cases y;simp [ba_eq]
theorem run_eql_Call (x y : Call) (w : World) : (binOp .eql 66 (.agg x.cells) (.agg y.cells)).run Tryz.prog w = .ok (.bool (decide (x = y))) w := by
 rw [eqn_Call];unfold Call.cells;simp [go_sem];repeat' split
 all_goals simp_all
theorem run_neq_Call (x y : Call) (w : World) : (binOp .neq 66 (.agg x.cells) (.agg y.cells)).run Tryz.prog w = .ok (.bool (!decide (x = y))) w := by
 rw [eqn_Call];unfold Call.cells;simp [go_sem];repeat' split
 all_goals simp_all
@[go_sem] theorem guard_Call (op : BinOp) (a b : Operand) (x y : Call) (w : World) : (eqGuard op 66 a b (.agg x.cells) (.agg y.cells)).run Tryz.prog w = .ok () w := run_eqGuard_agg w op 66 a b _ _ (by kernel_rfl)
theorem isAnswer : IsType Tryz.prog 101 Answer := ⟨⟨_, Tryz.underlying101⟩, by kernel_rfl⟩
@[go_sem] theorem LVb_Answer (b o : Nat) (w : World) : LV Tryz.prog 101 ⟨b, o, none⟩ w = LVp Tryz.prog 101 b o w (objPart o 2 (w.heap[b]?)) := LVp_eq Tryz.underlying101 isAnswer.size b o w
@[go_sem] theorem run_storeS_Answer (x : Answer) (b o : Nat) (w : World) : (storeS 101 (.pointer (some ⟨b, o, none⟩)) (.agg x.cells)).run Tryz.prog w = SVo Tryz.prog 101 2 b o x.cells w (w.heap[b]?) := SVo_eq isAnswer.size (Lies.size_eq x) (Lies.one x) b o w
theorem eqn_Answer (x y : Answer) : decide (x = y) = ((x.code == y.code && (x.text.toList == y.text.toList))) := by
 rw [Bool.eq_iff_iff];cases x; cases y;simp [ba_eq]
theorem run_eql_Answer (x y : Answer) (w : World) : (binOp .eql 101 (.agg x.cells) (.agg y.cells)).run Tryz.prog w = .ok (.bool (decide (x = y))) w := by
 rw [eqn_Answer];unfold Answer.cells;simp [go_sem];repeat' split
 all_goals simp_all
theorem run_neq_Answer (x y : Answer) (w : World) : (binOp .neq 101 (.agg x.cells) (.agg y.cells)).run Tryz.prog w = .ok (.bool (!decide (x = y))) w := by
 rw [eqn_Answer];unfold Answer.cells;simp [go_sem];repeat' split
 all_goals simp_all
@[go_sem] theorem guard_Answer (op : BinOp) (a b : Operand) (x y : Answer) (w : World) : (eqGuard op 101 a b (.agg x.cells) (.agg y.cells)).run Tryz.prog w = .ok () w := run_eqGuard_agg w op 101 a b _ _ (by kernel_rfl)
theorem isPacket : IsType Tryz.prog 103 Packet := ⟨⟨_, Tryz.underlying103⟩, by kernel_rfl⟩
theorem elemPacket : ElemOk Tryz.prog 103 Packet 104 := ElemOk.mk' (n := 9) (by kernel_rfl) rfl (by decide)
theorem LV_Packet {w : World} {a : Addr} {x : Packet} (h : At w a x) : LV Tryz.prog 103 a w = .ok (.agg x.cells) w := LV_at isPacket h
@[go_sem] theorem LVb_Packet (b o : Nat) (w : World) : LV Tryz.prog 103 ⟨b, o, none⟩ w = LVp Tryz.prog 103 b o w (objPart o 9 (w.heap[b]?)) := LVp_eq Tryz.underlying103 isPacket.size b o w
@[go_sem] theorem run_storeS_Packet (x : Packet) (b o : Nat) (w : World) : (storeS 103 (.pointer (some ⟨b, o, none⟩)) (.agg x.cells)).run Tryz.prog w = SVo Tryz.prog 103 9 b o x.cells w (w.heap[b]?) := SVo_eq isPacket.size (Lies.size_eq x) (Lies.one x) b o w
theorem eqn_Packet (x y : Packet) : decide (x = y) = ((x.reply == y.reply && (x.client == y.client && (x.no == y.no && (x.call.kind == y.call.kind && (x.call.name.toList == y.call.name.toList && (x.call.to_.toList == y.call.to_.toList && (x.call.text.toList == y.call.text.toList && (x.answer.code == y.answer.code && (x.answer.text.toList == y.answer.text.toList)))))))))) := by
 rw [Bool.eq_iff_iff];cases x; cases y;simp [ba_eq, Call.ext_iff', Answer.ext_iff'];try grind
theorem run_eql_Packet (x y : Packet) (w : World) : (binOp .eql 103 (.agg x.cells) (.agg y.cells)).run Tryz.prog w = .ok (.bool (decide (x = y))) w := by
 rw [eqn_Packet];unfold Packet.cells;simp [go_sem];repeat' split
 all_goals simp_all
theorem run_neq_Packet (x y : Packet) (w : World) : (binOp .neq 103 (.agg x.cells) (.agg y.cells)).run Tryz.prog w = .ok (.bool (!decide (x = y))) w := by
 rw [eqn_Packet];unfold Packet.cells;simp [go_sem];repeat' split
 all_goals simp_all
@[go_sem] theorem guard_Packet (op : BinOp) (a b : Operand) (x y : Packet) (w : World) : (eqGuard op 103 a b (.agg x.cells) (.agg y.cells)).run Tryz.prog w = .ok () w := run_eqGuard_agg w op 103 a b _ _ (by kernel_rfl)
theorem run_bs1_Packet_apiPacket (x : Packet) (w : World) : (Instr.buildSlice 70 1 #[(0, .agg x.cells)]).run Tryz.prog w = .ok (.slice (some ⟨w.heap.size, 0, none⟩) 1 1) (w.alloc (.cells x.cells 103)) := by
 unfold Packet.cells;simp [go_sem]
theorem run_bs0_Packet_apiPacket (w : World) : (Instr.buildSlice 70 0 #[]).run Tryz.prog w = .ok (.slice (some ⟨w.heap.size, 0, none⟩) 0 0) (w.alloc (.cells #[] 103)) := by
 simp [go_sem]
@[go_sem] theorem eqlnil_Packet_apiPacket (a : Option Addr) (n c : Nat) (w : World) : (binOp .eql 70 (.slice a n c) (.slice none 0 0)).run Tryz.prog w = .ok (.bool a.isNone) w := Lib.run_eql_slice_nil w 70 103 a n c 0 0 Tryz.underlying70
theorem run_bs1_Packet_postilionrefBag (x : Packet) (w : World) : (Instr.buildSlice 71 1 #[(0, .agg x.cells)]).run Tryz.prog w = .ok (.slice (some ⟨w.heap.size, 0, none⟩) 1 1) (w.alloc (.cells x.cells 103)) := by
 unfold Packet.cells;simp [go_sem]
theorem run_bs0_Packet_postilionrefBag (w : World) : (Instr.buildSlice 71 0 #[]).run Tryz.prog w = .ok (.slice (some ⟨w.heap.size, 0, none⟩) 0 0) (w.alloc (.cells #[] 103)) := by
 simp [go_sem]
@[go_sem] theorem eqlnil_Packet_postilionrefBag (a : Option Addr) (n c : Nat) (w : World) : (binOp .eql 71 (.slice a n c) (.slice none 0 0)).run Tryz.prog w = .ok (.bool a.isNone) w := Lib.run_eql_slice_nil w 71 103 a n c 0 0 Tryz.underlying71
theorem isRecord : IsType Tryz.prog 112 Record := ⟨⟨_, Tryz.underlying112⟩, by kernel_rfl⟩
theorem elemRecord : ElemOk Tryz.prog 112 Record 96 := ElemOk.mk' (n := 8) (by kernel_rfl) rfl (by decide)
theorem LV_Record {w : World} {a : Addr} {x : Record} (h : At w a x) : LV Tryz.prog 112 a w = .ok (.agg x.cells) w := LV_at isRecord h
@[go_sem] theorem LVb_Record (b o : Nat) (w : World) : LV Tryz.prog 112 ⟨b, o, none⟩ w = LVp Tryz.prog 112 b o w (objPart o 8 (w.heap[b]?)) := LVp_eq Tryz.underlying112 isRecord.size b o w
@[go_sem] theorem run_storeS_Record (x : Record) (b o : Nat) (w : World) : (storeS 112 (.pointer (some ⟨b, o, none⟩)) (.agg x.cells)).run Tryz.prog w = SVo Tryz.prog 112 8 b o x.cells w (w.heap[b]?) := SVo_eq isRecord.size (Lies.size_eq x) (Lies.one x) b o w
theorem eqn_Record (x y : Record) : decide (x = y) = ((x.client == y.client && (x.no == y.no && (x.call.kind == y.call.kind && (x.call.name.toList == y.call.name.toList && (x.call.to_.toList == y.call.to_.toList && (x.call.text.toList == y.call.text.toList && (x.answer.code == y.answer.code && (x.answer.text.toList == y.answer.text.toList))))))))) := by
 rw [Bool.eq_iff_iff];cases x; cases y;simp [ba_eq, Call.ext_iff', Answer.ext_iff'];try grind
theorem run_eql_Record (x y : Record) (w : World) : (binOp .eql 112 (.agg x.cells) (.agg y.cells)).run Tryz.prog w = .ok (.bool (decide (x = y))) w := by
 rw [eqn_Record];unfold Record.cells;simp [go_sem];repeat' split
 all_goals simp_all
theorem run_neq_Record (x y : Record) (w : World) : (binOp .neq 112 (.agg x.cells) (.agg y.cells)).run Tryz.prog w = .ok (.bool (!decide (x = y))) w := by
 rw [eqn_Record];unfold Record.cells;simp [go_sem];repeat' split
 all_goals simp_all
@[go_sem] theorem guard_Record (op : BinOp) (a b : Operand) (x y : Record) (w : World) : (eqGuard op 112 a b (.agg x.cells) (.agg y.cells)).run Tryz.prog w = .ok () w := run_eqGuard_agg w op 112 a b _ _ (by kernel_rfl)
theorem run_bs1_Record_apiRecord (x : Record) (w : World) : (Instr.buildSlice 62 1 #[(0, .agg x.cells)]).run Tryz.prog w = .ok (.slice (some ⟨w.heap.size, 0, none⟩) 1 1) (w.alloc (.cells x.cells 112)) := by
 unfold Record.cells;simp [go_sem]
theorem run_bs0_Record_apiRecord (w : World) : (Instr.buildSlice 62 0 #[]).run Tryz.prog w = .ok (.slice (some ⟨w.heap.size, 0, none⟩) 0 0) (w.alloc (.cells #[] 112)) := by
 simp [go_sem]
@[go_sem] theorem eqlnil_Record_apiRecord (a : Option Addr) (n c : Nat) (w : World) : (binOp .eql 62 (.slice a n c) (.slice none 0 0)).run Tryz.prog w = .ok (.bool a.isNone) w := Lib.run_eql_slice_nil w 62 112 a n c 0 0 Tryz.underlying62
theorem isFileF : IsType Tryz.prog 217 FileD := ⟨⟨_, Tryz.underlying217⟩, by kernel_rfl⟩
theorem elemFileF : ElemOk Tryz.prog 217 FileD 32 := ElemOk.mk' (n := 2) (by kernel_rfl) rfl (by decide)
theorem LV_FileF {w : World} {a : Addr} {x : FileD} (h : At w a x) : LV Tryz.prog 217 a w = .ok (.agg x.cells) w := LV_at isFileF h
@[go_sem] theorem LVb_FileF (b o : Nat) (w : World) : LV Tryz.prog 217 ⟨b, o, none⟩ w = LVp Tryz.prog 217 b o w (objPart o 2 (w.heap[b]?)) := LVp_eq Tryz.underlying217 isFileF.size b o w
@[go_sem] theorem run_storeS_FileF (x : FileD) (b o : Nat) (w : World) : (storeS 217 (.pointer (some ⟨b, o, none⟩)) (.agg x.cells)).run Tryz.prog w = SVo Tryz.prog 217 2 b o x.cells w (w.heap[b]?) := SVo_eq isFileF.size (Lies.size_eq x) (Lies.one x) b o w
theorem run_bs1_FileF_filesfile (x : FileD) (w : World) : (Instr.buildSlice 142 1 #[(0, .agg x.cells)]).run Tryz.prog w = .ok (.slice (some ⟨w.heap.size, 0, none⟩) 1 1) (w.alloc (.cells x.cells 217)) := by
 unfold FileD.cells;simp [go_sem]
theorem run_bs0_FileF_filesfile (w : World) : (Instr.buildSlice 142 0 #[]).run Tryz.prog w = .ok (.slice (some ⟨w.heap.size, 0, none⟩) 0 0) (w.alloc (.cells #[] 217)) := by
 simp [go_sem]
@[go_sem] theorem eqlnil_FileF_filesfile (a : Option Addr) (n c : Nat) (w : World) : (binOp .eql 142 (.slice a n c) (.slice none 0 0)).run Tryz.prog w = .ok (.bool a.isNone) w := Lib.run_eql_slice_nil w 142 217 a n c 0 0 Tryz.underlying142
theorem isFileR : IsType Tryz.prog 138 FileD := ⟨⟨_, Tryz.underlying138⟩, by kernel_rfl⟩
theorem elemFileR : ElemOk Tryz.prog 138 FileD 32 := ElemOk.mk' (n := 2) (by kernel_rfl) rfl (by decide)
@[go_sem] theorem LVb_FileR (b o : Nat) (w : World) : LV Tryz.prog 138 ⟨b, o, none⟩ w = LVp Tryz.prog 138 b o w (objPart o 2 (w.heap[b]?)) := LVp_eq Tryz.underlying138 isFileR.size b o w
@[go_sem] theorem run_storeS_FileR (x : FileD) (b o : Nat) (w : World) : (storeS 138 (.pointer (some ⟨b, o, none⟩)) (.agg x.cells)).run Tryz.prog w = SVo Tryz.prog 138 2 b o x.cells w (w.heap[b]?) := SVo_eq isFileR.size (Lies.size_eq x) (Lies.one x) b o w
theorem run_bs1_FileR_postilionrefDrawer (x : FileD) (w : World) : (Instr.buildSlice 140 1 #[(0, .agg x.cells)]).run Tryz.prog w = .ok (.slice (some ⟨w.heap.size, 0, none⟩) 1 1) (w.alloc (.cells x.cells 138)) := by
 unfold FileD.cells;simp [go_sem]
theorem run_bs0_FileR_postilionrefDrawer (w : World) : (Instr.buildSlice 140 0 #[]).run Tryz.prog w = .ok (.slice (some ⟨w.heap.size, 0, none⟩) 0 0) (w.alloc (.cells #[] 138)) := by
 simp [go_sem]
@[go_sem] theorem eqlnil_FileR_postilionrefDrawer (a : Option Addr) (n c : Nat) (w : World) : (binOp .eql 140 (.slice a n c) (.slice none 0 0)).run Tryz.prog w = .ok (.bool a.isNone) w := Lib.run_eql_slice_nil w 140 138 a n c 0 0 Tryz.underlying140
theorem isStep : IsType Tryz.prog 85 Step := ⟨⟨_, Tryz.underlying85⟩, by kernel_rfl⟩
@[go_sem] theorem LVb_Step (b o : Nat) (w : World) : LV Tryz.prog 85 ⟨b, o, none⟩ w = LVp Tryz.prog 85 b o w (objPart o 7 (w.heap[b]?)) := LVp_eq Tryz.underlying85 isStep.size b o w
@[go_sem] theorem run_storeS_Step (x : Step) (b o : Nat) (w : World) : (storeS 85 (.pointer (some ⟨b, o, none⟩)) (.agg x.cells)).run Tryz.prog w = SVo Tryz.prog 85 7 b o x.cells w (w.heap[b]?) := SVo_eq isStep.size (Lies.size_eq x) (Lies.one x) b o w
theorem elemString : ElemOk Tryz.prog 9 ByteArray 16 := ElemOk.mk' (n := 1) (by kernel_rfl) rfl (by decide)
theorem elemByte : ElemOk Tryz.prog 5 UInt8 1 := ElemOk.mk' (n := 1) (by kernel_rfl) rfl (by decide)
theorem elemInt : ElemOk Tryz.prog 3 Int 8 := ElemOk.mk' (n := 1) (by kernel_rfl) rfl (by decide)
@[go_sem ↓] theorem load_Call (v : Value) : Instr.loadAt 66 v = loadS 66 v := rfl
@[go_sem ↓] theorem store_Call (a v : Value) : Instr.storeAt 66 a v = storeS 66 a v := rfl
@[go_sem] theorem fold_Call (x0 : Int) (x1 : ByteArray) (x2 : ByteArray) (x3 : ByteArray) : Obj.cells #[.int .i64 x0, .string x1, .string x2, .string x3] 66 (0, 0) = Obj.cells (Call.cells (⟨x0, x1, x2, x3⟩ : Call)) 66 (0, 0) := by unfold Call.cells; rfl
@[go_sem ↓] theorem bin_eql_Call (x y : Value) : binOp .eql 66 x y = binS .eql 66 x y := rfl
@[go_sem] theorem runS_eql_Call (x y : Call) (w : World) : (binS .eql 66 (.agg x.cells) (.agg y.cells)).run Tryz.prog w = .ok (.bool (decide (x = y))) w := run_eql_Call x y w
@[go_sem ↓] theorem bin_neq_Call (x y : Value) : binOp .neq 66 x y = binS .neq 66 x y := rfl
@[go_sem] theorem runS_neq_Call (x y : Call) (w : World) : (binS .neq 66 (.agg x.cells) (.agg y.cells)).run Tryz.prog w = .ok (.bool (!decide (x = y))) w := run_neq_Call x y w
@[go_sem ↓] theorem load_Answer (v : Value) : Instr.loadAt 101 v = loadS 101 v := rfl
@[go_sem ↓] theorem store_Answer (a v : Value) : Instr.storeAt 101 a v = storeS 101 a v := rfl
@[go_sem] theorem fold_Answer (x0 : Int) (x1 : ByteArray) : Obj.cells #[.int .i64 x0, .string x1] 101 (0, 0) = Obj.cells (Answer.cells (⟨x0, x1⟩ : Answer)) 101 (0, 0) := by unfold Answer.cells; rfl
@[go_sem ↓] theorem bin_eql_Answer (x y : Value) : binOp .eql 101 x y = binS .eql 101 x y := rfl
@[go_sem] theorem runS_eql_Answer (x y : Answer) (w : World) : (binS .eql 101 (.agg x.cells) (.agg y.cells)).run Tryz.prog w = .ok (.bool (decide (x = y))) w := run_eql_Answer x y w
@[go_sem ↓] theorem bin_neq_Answer (x y : Value) : binOp .neq 101 x y = binS .neq 101 x y := rfl
@[go_sem] theorem runS_neq_Answer (x y : Answer) (w : World) : (binS .neq 101 (.agg x.cells) (.agg y.cells)).run Tryz.prog w = .ok (.bool (!decide (x = y))) w := run_neq_Answer x y w
@[go_sem ↓] theorem load_Packet (v : Value) : Instr.loadAt 103 v = loadS 103 v := rfl
@[go_sem ↓] theorem store_Packet (a v : Value) : Instr.storeAt 103 a v = storeS 103 a v := rfl
@[go_sem] theorem fold_Packet (x0 : Bool) (x1 : Int) (x2 : Int) (x3 : Int) (x4 : ByteArray) (x5 : ByteArray) (x6 : ByteArray) (x7 : Int) (x8 : ByteArray) : Obj.cells #[.bool x0, .int .i64 x1, .int .i64 x2, .int .i64 x3, .string x4, .string x5, .string x6, .int .i64 x7, .string x8] 103 (0, 0) = Obj.cells (Packet.cells (⟨x0, x1, x2, ⟨x3, x4, x5, x6⟩, ⟨x7, x8⟩⟩ : Packet)) 103 (0, 0) := by unfold Packet.cells; rfl
@[go_sem ↓] theorem bin_eql_Packet (x y : Value) : binOp .eql 103 x y = binS .eql 103 x y := rfl
@[go_sem] theorem runS_eql_Packet (x y : Packet) (w : World) : (binS .eql 103 (.agg x.cells) (.agg y.cells)).run Tryz.prog w = .ok (.bool (decide (x = y))) w := run_eql_Packet x y w
@[go_sem ↓] theorem bin_neq_Packet (x y : Value) : binOp .neq 103 x y = binS .neq 103 x y := rfl
@[go_sem] theorem runS_neq_Packet (x y : Packet) (w : World) : (binS .neq 103 (.agg x.cells) (.agg y.cells)).run Tryz.prog w = .ok (.bool (!decide (x = y))) w := run_neq_Packet x y w
@[go_sem] theorem runS_bs0_Packet_apiPacket (w : World) : (sliceS 70 0 #[]).run Tryz.prog w = .ok (.slice (some ⟨w.heap.size, 0, none⟩) 0 0) (w.alloc (.cells #[] 103)) := run_bs0_Packet_apiPacket w
@[go_sem ↓] theorem bs_Packet_apiPacket (n : Nat) (ps : Array (Nat × Value)) : Instr.buildSlice 70 n ps = sliceS 70 n ps := rfl
@[go_sem] theorem runS_bs1_Packet_apiPacket (x : Packet) (w : World) : (sliceS 70 1 #[(0, .agg x.cells)]).run Tryz.prog w = .ok (.slice (some ⟨w.heap.size, 0, none⟩) 1 1) (w.alloc (.cells x.cells 103)) := run_bs1_Packet_apiPacket x w
@[go_sem] theorem runS_bs0_Packet_postilionrefBag (w : World) : (sliceS 71 0 #[]).run Tryz.prog w = .ok (.slice (some ⟨w.heap.size, 0, none⟩) 0 0) (w.alloc (.cells #[] 103)) := run_bs0_Packet_postilionrefBag w
@[go_sem ↓] theorem bs_Packet_postilionrefBag (n : Nat) (ps : Array (Nat × Value)) : Instr.buildSlice 71 n ps = sliceS 71 n ps := rfl
@[go_sem] theorem runS_bs1_Packet_postilionrefBag (x : Packet) (w : World) : (sliceS 71 1 #[(0, .agg x.cells)]).run Tryz.prog w = .ok (.slice (some ⟨w.heap.size, 0, none⟩) 1 1) (w.alloc (.cells x.cells 103)) := run_bs1_Packet_postilionrefBag x w
@[go_sem ↓] theorem load_Record (v : Value) : Instr.loadAt 112 v = loadS 112 v := rfl
@[go_sem ↓] theorem store_Record (a v : Value) : Instr.storeAt 112 a v = storeS 112 a v := rfl
@[go_sem] theorem fold_Record (x0 : Int) (x1 : Int) (x2 : Int) (x3 : ByteArray) (x4 : ByteArray) (x5 : ByteArray) (x6 : Int) (x7 : ByteArray) : Obj.cells #[.int .i64 x0, .int .i64 x1, .int .i64 x2, .string x3, .string x4, .string x5, .int .i64 x6, .string x7] 112 (0, 0) = Obj.cells (Record.cells (⟨x0, x1, ⟨x2, x3, x4, x5⟩, ⟨x6, x7⟩⟩ : Record)) 112 (0, 0) := by unfold Record.cells; rfl
@[go_sem ↓] theorem bin_eql_Record (x y : Value) : binOp .eql 112 x y = binS .eql 112 x y := rfl
@[go_sem] theorem runS_eql_Record (x y : Record) (w : World) : (binS .eql 112 (.agg x.cells) (.agg y.cells)).run Tryz.prog w = .ok (.bool (decide (x = y))) w := run_eql_Record x y w
@[go_sem ↓] theorem bin_neq_Record (x y : Value) : binOp .neq 112 x y = binS .neq 112 x y := rfl
@[go_sem] theorem runS_neq_Record (x y : Record) (w : World) : (binS .neq 112 (.agg x.cells) (.agg y.cells)).run Tryz.prog w = .ok (.bool (!decide (x = y))) w := run_neq_Record x y w
@[go_sem] theorem runS_bs0_Record_apiRecord (w : World) : (sliceS 62 0 #[]).run Tryz.prog w = .ok (.slice (some ⟨w.heap.size, 0, none⟩) 0 0) (w.alloc (.cells #[] 112)) := run_bs0_Record_apiRecord w
@[go_sem ↓] theorem bs_Record_apiRecord (n : Nat) (ps : Array (Nat × Value)) : Instr.buildSlice 62 n ps = sliceS 62 n ps := rfl
@[go_sem] theorem runS_bs1_Record_apiRecord (x : Record) (w : World) : (sliceS 62 1 #[(0, .agg x.cells)]).run Tryz.prog w = .ok (.slice (some ⟨w.heap.size, 0, none⟩) 1 1) (w.alloc (.cells x.cells 112)) := run_bs1_Record_apiRecord x w
@[go_sem ↓] theorem load_FileF (v : Value) : Instr.loadAt 217 v = loadS 217 v := rfl
@[go_sem ↓] theorem store_FileF (a v : Value) : Instr.storeAt 217 a v = storeS 217 a v := rfl
@[go_sem] theorem fold_FileF (x0 : ByteArray) (x1 : ByteArray) : Obj.cells #[.string x0, .string x1] 217 (0, 0) = Obj.cells (FileD.cells (⟨x0, x1⟩ : FileD)) 217 (0, 0) := by unfold FileD.cells; rfl
@[go_sem] theorem runS_bs0_FileF_filesfile (w : World) : (sliceS 142 0 #[]).run Tryz.prog w = .ok (.slice (some ⟨w.heap.size, 0, none⟩) 0 0) (w.alloc (.cells #[] 217)) := run_bs0_FileF_filesfile w
@[go_sem ↓] theorem bs_FileF_filesfile (n : Nat) (ps : Array (Nat × Value)) : Instr.buildSlice 142 n ps = sliceS 142 n ps := rfl
@[go_sem] theorem runS_bs1_FileF_filesfile (x : FileD) (w : World) : (sliceS 142 1 #[(0, .agg x.cells)]).run Tryz.prog w = .ok (.slice (some ⟨w.heap.size, 0, none⟩) 1 1) (w.alloc (.cells x.cells 217)) := run_bs1_FileF_filesfile x w
@[go_sem ↓] theorem load_FileR (v : Value) : Instr.loadAt 138 v = loadS 138 v := rfl
@[go_sem ↓] theorem store_FileR (a v : Value) : Instr.storeAt 138 a v = storeS 138 a v := rfl
@[go_sem] theorem fold_FileR (x0 : ByteArray) (x1 : ByteArray) : Obj.cells #[.string x0, .string x1] 138 (0, 0) = Obj.cells (FileD.cells (⟨x0, x1⟩ : FileD)) 138 (0, 0) := by unfold FileD.cells; rfl
@[go_sem] theorem runS_bs0_FileR_postilionrefDrawer (w : World) : (sliceS 140 0 #[]).run Tryz.prog w = .ok (.slice (some ⟨w.heap.size, 0, none⟩) 0 0) (w.alloc (.cells #[] 138)) := run_bs0_FileR_postilionrefDrawer w
@[go_sem ↓] theorem bs_FileR_postilionrefDrawer (n : Nat) (ps : Array (Nat × Value)) : Instr.buildSlice 140 n ps = sliceS 140 n ps := rfl
@[go_sem] theorem runS_bs1_FileR_postilionrefDrawer (x : FileD) (w : World) : (sliceS 140 1 #[(0, .agg x.cells)]).run Tryz.prog w = .ok (.slice (some ⟨w.heap.size, 0, none⟩) 1 1) (w.alloc (.cells x.cells 138)) := run_bs1_FileR_postilionrefDrawer x w
@[go_sem ↓] theorem load_Step (v : Value) : Instr.loadAt 85 v = loadS 85 v := rfl
@[go_sem ↓] theorem store_Step (a v : Value) : Instr.storeAt 85 a v = storeS 85 a v := rfl
@[go_sem] theorem fold_Step (x0 : Int) (x1 : Int) (x2 : Int) (x3 : Int) (x4 : ByteArray) (x5 : ByteArray) (x6 : ByteArray) : Obj.cells #[.int .i64 x0, .int .i64 x1, .int .i64 x2, .int .i64 x3, .string x4, .string x5, .string x6] 85 (0, 0) = Obj.cells (Step.cells (⟨x0, x1, x2, ⟨x3, x4, x5, x6⟩⟩ : Step)) 85 (0, 0) := by unfold Step.cells; rfl
attribute [go_sem] Call.fold_agg Answer.fold_agg Packet.fold_agg Record.fold_agg PostStep.fold_agg ClientStep.fold_agg FileD.fold_agg StoreStep.fold_agg Step.fold_agg
end Go.Proofs.YtalfbhhldfffkaaGreatDoor
