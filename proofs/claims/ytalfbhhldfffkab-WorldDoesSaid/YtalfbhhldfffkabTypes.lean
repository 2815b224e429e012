/- Types: the rules by which the walk loads, stores and compares the structs of this program whole. Printed by gen_types.py. -/
import Derived.Test.YtalfbhhldfffkabProg
import Derived.Test.YtalfbhhldfffkabMem
import Derived.Lib.SliceRun
namespace Go.Proofs.Ytalfbhhldfffkab
open Go.RowKit

/-! ### Call -/
theorem isCall : IsType Try.prog 31 Call := ⟨⟨_, Try.underlying31⟩, by kernel_rfl⟩
theorem elemCall : ElemOk Try.prog 31 Call 56 := ElemOk.mk' (n := 4) (by kernel_rfl) rfl (by decide)
theorem LV_Call {w : World} {a : Addr} {x : Call} (h : At w a x) : LV Try.prog 31 a w = .ok (.agg x.cells) w := LV_at isCall h
@[go_sem] theorem LVb_Call (b o : Nat) (w : World) : LV Try.prog 31 ⟨b, o, none⟩ w = LVp Try.prog 31 b o w (objPart o 4 (w.heap[b]?)) := LVp_eq Try.underlying31 isCall.size b o w
@[go_sem] theorem run_storeS_Call (x : Call) (b o : Nat) (w : World) : (storeS 31 (.pointer (some ⟨b, o, none⟩)) (.agg x.cells)).run Try.prog w = SVo Try.prog 31 4 b o x.cells w (w.heap[b]?) := SVo_eq isCall.size (Lies.size_eq x) (Lies.one x) b o w
theorem eqn_Call (x y : Call) : decide (x = y) = ((x.kind == y.kind && (x.name.toList == y.name.toList && (x.to_.toList == y.to_.toList && (x.text.toList == y.text.toList))))) := by
  rw [Bool.eq_iff_iff]
  cases x; cases y
  simp [ba_eq]
theorem run_eql_Call (x y : Call) (w : World) : (binOp .eql 31 (.agg x.cells) (.agg y.cells)).run Try.prog w = .ok (.bool (decide (x = y))) w := by
  rw [eqn_Call]
  unfold Call.cells
  simp [go_sem]
  repeat' split
  all_goals simp_all
theorem run_neq_Call (x y : Call) (w : World) : (binOp .neq 31 (.agg x.cells) (.agg y.cells)).run Try.prog w = .ok (.bool (!decide (x = y))) w := by
  rw [eqn_Call]
  unfold Call.cells
  simp [go_sem]
  repeat' split
  all_goals simp_all
@[go_sem] theorem guard_Call (op : BinOp) (a b : Operand) (x y : Call) (w : World) : (eqGuard op 31 a b (.agg x.cells) (.agg y.cells)).run Try.prog w = .ok () w := run_eqGuard_agg w op 31 a b _ _ (by kernel_rfl)
theorem run_bs1_Call_apiCall (x : Call) (w : World) : (Instr.buildSlice 22 1 #[(0, .agg x.cells)]).run Try.prog w = .ok (.slice (some ⟨w.heap.size, 0, none⟩) 1 1) (w.alloc (.cells x.cells 31)) := by
  unfold Call.cells
  simp [go_sem]
theorem run_bs0_Call_apiCall (w : World) : (Instr.buildSlice 22 0 #[]).run Try.prog w = .ok (.slice (some ⟨w.heap.size, 0, none⟩) 0 0) (w.alloc (.cells #[] 31)) := by
  simp [go_sem]
@[go_sem] theorem eqlnil_Call_apiCall (a : Option Addr) (n c : Nat) (w : World) : (binOp .eql 22 (.slice a n c) (.slice none 0 0)).run Try.prog w = .ok (.bool a.isNone) w := Lib.run_eql_slice_nil w 22 31 a n c 0 0 Try.underlying22

/-! ### Answer -/
theorem isAnswer : IsType Try.prog 28 Answer := ⟨⟨_, Try.underlying28⟩, by kernel_rfl⟩
theorem elemAnswer : ElemOk Try.prog 28 Answer 24 := ElemOk.mk' (n := 2) (by kernel_rfl) rfl (by decide)
theorem LV_Answer {w : World} {a : Addr} {x : Answer} (h : At w a x) : LV Try.prog 28 a w = .ok (.agg x.cells) w := LV_at isAnswer h
@[go_sem] theorem LVb_Answer (b o : Nat) (w : World) : LV Try.prog 28 ⟨b, o, none⟩ w = LVp Try.prog 28 b o w (objPart o 2 (w.heap[b]?)) := LVp_eq Try.underlying28 isAnswer.size b o w
@[go_sem] theorem run_storeS_Answer (x : Answer) (b o : Nat) (w : World) : (storeS 28 (.pointer (some ⟨b, o, none⟩)) (.agg x.cells)).run Try.prog w = SVo Try.prog 28 2 b o x.cells w (w.heap[b]?) := SVo_eq isAnswer.size (Lies.size_eq x) (Lies.one x) b o w
theorem eqn_Answer (x y : Answer) : decide (x = y) = ((x.code == y.code && (x.text.toList == y.text.toList))) := by
  rw [Bool.eq_iff_iff]
  cases x; cases y
  simp [ba_eq]
theorem run_eql_Answer (x y : Answer) (w : World) : (binOp .eql 28 (.agg x.cells) (.agg y.cells)).run Try.prog w = .ok (.bool (decide (x = y))) w := by
  rw [eqn_Answer]
  unfold Answer.cells
  simp [go_sem]
  repeat' split
  all_goals simp_all
theorem run_neq_Answer (x y : Answer) (w : World) : (binOp .neq 28 (.agg x.cells) (.agg y.cells)).run Try.prog w = .ok (.bool (!decide (x = y))) w := by
  rw [eqn_Answer]
  unfold Answer.cells
  simp [go_sem]
  repeat' split
  all_goals simp_all
@[go_sem] theorem guard_Answer (op : BinOp) (a b : Operand) (x y : Answer) (w : World) : (eqGuard op 28 a b (.agg x.cells) (.agg y.cells)).run Try.prog w = .ok () w := run_eqGuard_agg w op 28 a b _ _ (by kernel_rfl)

/-! ### Packet -/
theorem isPacket : IsType Try.prog 131 Packet := ⟨⟨_, Try.underlying131⟩, by kernel_rfl⟩
theorem elemPacket : ElemOk Try.prog 131 Packet 104 := ElemOk.mk' (n := 9) (by kernel_rfl) rfl (by decide)
theorem LV_Packet {w : World} {a : Addr} {x : Packet} (h : At w a x) : LV Try.prog 131 a w = .ok (.agg x.cells) w := LV_at isPacket h
@[go_sem] theorem LVb_Packet (b o : Nat) (w : World) : LV Try.prog 131 ⟨b, o, none⟩ w = LVp Try.prog 131 b o w (objPart o 9 (w.heap[b]?)) := LVp_eq Try.underlying131 isPacket.size b o w
@[go_sem] theorem run_storeS_Packet (x : Packet) (b o : Nat) (w : World) : (storeS 131 (.pointer (some ⟨b, o, none⟩)) (.agg x.cells)).run Try.prog w = SVo Try.prog 131 9 b o x.cells w (w.heap[b]?) := SVo_eq isPacket.size (Lies.size_eq x) (Lies.one x) b o w
theorem eqn_Packet (x y : Packet) : decide (x = y) = ((x.reply == y.reply && (x.client == y.client && (x.no == y.no && (x.call.kind == y.call.kind && (x.call.name.toList == y.call.name.toList && (x.call.to_.toList == y.call.to_.toList && (x.call.text.toList == y.call.text.toList && (x.answer.code == y.answer.code && (x.answer.text.toList == y.answer.text.toList)))))))))) := by
  rw [Bool.eq_iff_iff]
  cases x; cases y
  simp [ba_eq, Call.ext_iff', Answer.ext_iff']
  try grind
theorem run_eql_Packet (x y : Packet) (w : World) : (binOp .eql 131 (.agg x.cells) (.agg y.cells)).run Try.prog w = .ok (.bool (decide (x = y))) w := by
  rw [eqn_Packet]
  unfold Packet.cells
  simp [go_sem]
  repeat' split
  all_goals simp_all
theorem run_neq_Packet (x y : Packet) (w : World) : (binOp .neq 131 (.agg x.cells) (.agg y.cells)).run Try.prog w = .ok (.bool (!decide (x = y))) w := by
  rw [eqn_Packet]
  unfold Packet.cells
  simp [go_sem]
  repeat' split
  all_goals simp_all
@[go_sem] theorem guard_Packet (op : BinOp) (a b : Operand) (x y : Packet) (w : World) : (eqGuard op 131 a b (.agg x.cells) (.agg y.cells)).run Try.prog w = .ok () w := run_eqGuard_agg w op 131 a b _ _ (by kernel_rfl)
theorem run_bs1_Packet_apiPacket (x : Packet) (w : World) : (Instr.buildSlice 86 1 #[(0, .agg x.cells)]).run Try.prog w = .ok (.slice (some ⟨w.heap.size, 0, none⟩) 1 1) (w.alloc (.cells x.cells 131)) := by
  unfold Packet.cells
  simp [go_sem]
theorem run_bs0_Packet_apiPacket (w : World) : (Instr.buildSlice 86 0 #[]).run Try.prog w = .ok (.slice (some ⟨w.heap.size, 0, none⟩) 0 0) (w.alloc (.cells #[] 131)) := by
  simp [go_sem]
@[go_sem] theorem eqlnil_Packet_apiPacket (a : Option Addr) (n c : Nat) (w : World) : (binOp .eql 86 (.slice a n c) (.slice none 0 0)).run Try.prog w = .ok (.bool a.isNone) w := Lib.run_eql_slice_nil w 86 131 a n c 0 0 Try.underlying86
theorem run_bs1_Packet_postilionrefBag (x : Packet) (w : World) : (Instr.buildSlice 87 1 #[(0, .agg x.cells)]).run Try.prog w = .ok (.slice (some ⟨w.heap.size, 0, none⟩) 1 1) (w.alloc (.cells x.cells 131)) := by
  unfold Packet.cells
  simp [go_sem]
theorem run_bs0_Packet_postilionrefBag (w : World) : (Instr.buildSlice 87 0 #[]).run Try.prog w = .ok (.slice (some ⟨w.heap.size, 0, none⟩) 0 0) (w.alloc (.cells #[] 131)) := by
  simp [go_sem]
@[go_sem] theorem eqlnil_Packet_postilionrefBag (a : Option Addr) (n c : Nat) (w : World) : (binOp .eql 87 (.slice a n c) (.slice none 0 0)).run Try.prog w = .ok (.bool a.isNone) w := Lib.run_eql_slice_nil w 87 131 a n c 0 0 Try.underlying87

/-! ### Record -/
theorem isRecord : IsType Try.prog 49 Record := ⟨⟨_, Try.underlying49⟩, by kernel_rfl⟩
theorem elemRecord : ElemOk Try.prog 49 Record 96 := ElemOk.mk' (n := 8) (by kernel_rfl) rfl (by decide)
theorem LV_Record {w : World} {a : Addr} {x : Record} (h : At w a x) : LV Try.prog 49 a w = .ok (.agg x.cells) w := LV_at isRecord h
@[go_sem] theorem LVb_Record (b o : Nat) (w : World) : LV Try.prog 49 ⟨b, o, none⟩ w = LVp Try.prog 49 b o w (objPart o 8 (w.heap[b]?)) := LVp_eq Try.underlying49 isRecord.size b o w
@[go_sem] theorem run_storeS_Record (x : Record) (b o : Nat) (w : World) : (storeS 49 (.pointer (some ⟨b, o, none⟩)) (.agg x.cells)).run Try.prog w = SVo Try.prog 49 8 b o x.cells w (w.heap[b]?) := SVo_eq isRecord.size (Lies.size_eq x) (Lies.one x) b o w
theorem eqn_Record (x y : Record) : decide (x = y) = ((x.client == y.client && (x.no == y.no && (x.call.kind == y.call.kind && (x.call.name.toList == y.call.name.toList && (x.call.to_.toList == y.call.to_.toList && (x.call.text.toList == y.call.text.toList && (x.answer.code == y.answer.code && (x.answer.text.toList == y.answer.text.toList))))))))) := by
  rw [Bool.eq_iff_iff]
  cases x; cases y
  simp [ba_eq, Call.ext_iff', Answer.ext_iff']
  try grind
theorem run_eql_Record (x y : Record) (w : World) : (binOp .eql 49 (.agg x.cells) (.agg y.cells)).run Try.prog w = .ok (.bool (decide (x = y))) w := by
  rw [eqn_Record]
  unfold Record.cells
  simp [go_sem]
  repeat' split
  all_goals simp_all
theorem run_neq_Record (x y : Record) (w : World) : (binOp .neq 49 (.agg x.cells) (.agg y.cells)).run Try.prog w = .ok (.bool (!decide (x = y))) w := by
  rw [eqn_Record]
  unfold Record.cells
  simp [go_sem]
  repeat' split
  all_goals simp_all
@[go_sem] theorem guard_Record (op : BinOp) (a b : Operand) (x y : Record) (w : World) : (eqGuard op 49 a b (.agg x.cells) (.agg y.cells)).run Try.prog w = .ok () w := run_eqGuard_agg w op 49 a b _ _ (by kernel_rfl)
theorem run_bs1_Record_apiRecord (x : Record) (w : World) : (Instr.buildSlice 44 1 #[(0, .agg x.cells)]).run Try.prog w = .ok (.slice (some ⟨w.heap.size, 0, none⟩) 1 1) (w.alloc (.cells x.cells 49)) := by
  unfold Record.cells
  simp [go_sem]
theorem run_bs0_Record_apiRecord (w : World) : (Instr.buildSlice 44 0 #[]).run Try.prog w = .ok (.slice (some ⟨w.heap.size, 0, none⟩) 0 0) (w.alloc (.cells #[] 49)) := by
  simp [go_sem]
@[go_sem] theorem eqlnil_Record_apiRecord (a : Option Addr) (n c : Nat) (w : World) : (binOp .eql 44 (.slice a n c) (.slice none 0 0)).run Try.prog w = .ok (.bool a.isNone) w := Lib.run_eql_slice_nil w 44 49 a n c 0 0 Try.underlying44

/-! ### PostStep -/

/-! ### ClientStep -/

/-! ### FileF -/
theorem isFileF : IsType Try.prog 112 FileD := ⟨⟨_, Try.underlying112⟩, by kernel_rfl⟩
theorem elemFileF : ElemOk Try.prog 112 FileD 32 := ElemOk.mk' (n := 2) (by kernel_rfl) rfl (by decide)
theorem LV_FileF {w : World} {a : Addr} {x : FileD} (h : At w a x) : LV Try.prog 112 a w = .ok (.agg x.cells) w := LV_at isFileF h
@[go_sem] theorem LVb_FileF (b o : Nat) (w : World) : LV Try.prog 112 ⟨b, o, none⟩ w = LVp Try.prog 112 b o w (objPart o 2 (w.heap[b]?)) := LVp_eq Try.underlying112 isFileF.size b o w
@[go_sem] theorem run_storeS_FileF (x : FileD) (b o : Nat) (w : World) : (storeS 112 (.pointer (some ⟨b, o, none⟩)) (.agg x.cells)).run Try.prog w = SVo Try.prog 112 2 b o x.cells w (w.heap[b]?) := SVo_eq isFileF.size (Lies.size_eq x) (Lies.one x) b o w
theorem run_bs1_FileF_filesfile (x : FileD) (w : World) : (Instr.buildSlice 103 1 #[(0, .agg x.cells)]).run Try.prog w = .ok (.slice (some ⟨w.heap.size, 0, none⟩) 1 1) (w.alloc (.cells x.cells 112)) := by
  unfold FileD.cells
  simp [go_sem]
theorem run_bs0_FileF_filesfile (w : World) : (Instr.buildSlice 103 0 #[]).run Try.prog w = .ok (.slice (some ⟨w.heap.size, 0, none⟩) 0 0) (w.alloc (.cells #[] 112)) := by
  simp [go_sem]
@[go_sem] theorem eqlnil_FileF_filesfile (a : Option Addr) (n c : Nat) (w : World) : (binOp .eql 103 (.slice a n c) (.slice none 0 0)).run Try.prog w = .ok (.bool a.isNone) w := Lib.run_eql_slice_nil w 103 112 a n c 0 0 Try.underlying103

/-! ### FileR -/
theorem isFileR : IsType Try.prog 120 FileD := ⟨⟨_, Try.underlying120⟩, by kernel_rfl⟩
theorem elemFileR : ElemOk Try.prog 120 FileD 32 := ElemOk.mk' (n := 2) (by kernel_rfl) rfl (by decide)
theorem LV_FileR {w : World} {a : Addr} {x : FileD} (h : At w a x) : LV Try.prog 120 a w = .ok (.agg x.cells) w := LV_at isFileR h
@[go_sem] theorem LVb_FileR (b o : Nat) (w : World) : LV Try.prog 120 ⟨b, o, none⟩ w = LVp Try.prog 120 b o w (objPart o 2 (w.heap[b]?)) := LVp_eq Try.underlying120 isFileR.size b o w
@[go_sem] theorem run_storeS_FileR (x : FileD) (b o : Nat) (w : World) : (storeS 120 (.pointer (some ⟨b, o, none⟩)) (.agg x.cells)).run Try.prog w = SVo Try.prog 120 2 b o x.cells w (w.heap[b]?) := SVo_eq isFileR.size (Lies.size_eq x) (Lies.one x) b o w
theorem run_bs1_FileR_postilionrefDrawer (x : FileD) (w : World) : (Instr.buildSlice 118 1 #[(0, .agg x.cells)]).run Try.prog w = .ok (.slice (some ⟨w.heap.size, 0, none⟩) 1 1) (w.alloc (.cells x.cells 120)) := by
  unfold FileD.cells
  simp [go_sem]
theorem run_bs0_FileR_postilionrefDrawer (w : World) : (Instr.buildSlice 118 0 #[]).run Try.prog w = .ok (.slice (some ⟨w.heap.size, 0, none⟩) 0 0) (w.alloc (.cells #[] 120)) := by
  simp [go_sem]
@[go_sem] theorem eqlnil_FileR_postilionrefDrawer (a : Option Addr) (n c : Nat) (w : World) : (binOp .eql 118 (.slice a n c) (.slice none 0 0)).run Try.prog w = .ok (.bool a.isNone) w := Lib.run_eql_slice_nil w 118 120 a n c 0 0 Try.underlying118

/-! ### StoreStep -/
theorem isStoreStep : IsType Try.prog 61 StoreStep := ⟨⟨_, Try.underlying61⟩, by kernel_rfl⟩
theorem elemStoreStep : ElemOk Try.prog 61 StoreStep 88 := ElemOk.mk' (n := 8) (by kernel_rfl) rfl (by decide)
theorem LV_StoreStep {w : World} {a : Addr} {x : StoreStep} (h : At w a x) : LV Try.prog 61 a w = .ok (.agg x.cells) w := LV_at isStoreStep h
@[go_sem] theorem LVb_StoreStep (b o : Nat) (w : World) : LV Try.prog 61 ⟨b, o, none⟩ w = LVp Try.prog 61 b o w (objPart o 8 (w.heap[b]?)) := LVp_eq Try.underlying61 isStoreStep.size b o w
@[go_sem] theorem run_storeS_StoreStep (x : StoreStep) (b o : Nat) (w : World) : (storeS 61 (.pointer (some ⟨b, o, none⟩)) (.agg x.cells)).run Try.prog w = SVo Try.prog 61 8 b o x.cells w (w.heap[b]?) := SVo_eq isStoreStep.size (Lies.size_eq x) (Lies.one x) b o w
theorem run_bs1_StoreStep_postilionlawStoreStep (x : StoreStep) (w : World) : (Instr.buildSlice 38 1 #[(0, .agg x.cells)]).run Try.prog w = .ok (.slice (some ⟨w.heap.size, 0, none⟩) 1 1) (w.alloc (.cells x.cells 61)) := by
  unfold StoreStep.cells
  simp [go_sem]
theorem run_bs0_StoreStep_postilionlawStoreStep (w : World) : (Instr.buildSlice 38 0 #[]).run Try.prog w = .ok (.slice (some ⟨w.heap.size, 0, none⟩) 0 0) (w.alloc (.cells #[] 61)) := by
  simp [go_sem]
@[go_sem] theorem eqlnil_StoreStep_postilionlawStoreStep (a : Option Addr) (n c : Nat) (w : World) : (binOp .eql 38 (.slice a n c) (.slice none 0 0)).run Try.prog w = .ok (.bool a.isNone) w := Lib.run_eql_slice_nil w 38 61 a n c 0 0 Try.underlying38

/-! ### Step -/
theorem isStep : IsType Try.prog 100 Step := ⟨⟨_, Try.underlying100⟩, by kernel_rfl⟩
theorem elemStep : ElemOk Try.prog 100 Step 80 := ElemOk.mk' (n := 7) (by kernel_rfl) rfl (by decide)
theorem LV_Step {w : World} {a : Addr} {x : Step} (h : At w a x) : LV Try.prog 100 a w = .ok (.agg x.cells) w := LV_at isStep h
@[go_sem] theorem LVb_Step (b o : Nat) (w : World) : LV Try.prog 100 ⟨b, o, none⟩ w = LVp Try.prog 100 b o w (objPart o 7 (w.heap[b]?)) := LVp_eq Try.underlying100 isStep.size b o w
@[go_sem] theorem run_storeS_Step (x : Step) (b o : Nat) (w : World) : (storeS 100 (.pointer (some ⟨b, o, none⟩)) (.agg x.cells)).run Try.prog w = SVo Try.prog 100 7 b o x.cells w (w.heap[b]?) := SVo_eq isStep.size (Lies.size_eq x) (Lies.one x) b o w
theorem run_bs1_Step_apiStep (x : Step) (w : World) : (Instr.buildSlice 75 1 #[(0, .agg x.cells)]).run Try.prog w = .ok (.slice (some ⟨w.heap.size, 0, none⟩) 1 1) (w.alloc (.cells x.cells 100)) := by
  unfold Step.cells
  simp [go_sem]
theorem run_bs0_Step_apiStep (w : World) : (Instr.buildSlice 75 0 #[]).run Try.prog w = .ok (.slice (some ⟨w.heap.size, 0, none⟩) 0 0) (w.alloc (.cells #[] 100)) := by
  simp [go_sem]
@[go_sem] theorem eqlnil_Step_apiStep (a : Option Addr) (n c : Nat) (w : World) : (binOp .eql 75 (.slice a n c) (.slice none 0 0)).run Try.prog w = .ok (.bool a.isNone) w := Lib.run_eql_slice_nil w 75 100 a n c 0 0 Try.underlying75

theorem elemString : ElemOk Try.prog 9 ByteArray 16 := ElemOk.mk' (n := 1) (by kernel_rfl) rfl (by decide)
theorem elemByte : ElemOk Try.prog 5 UInt8 1 := ElemOk.mk' (n := 1) (by kernel_rfl) rfl (by decide)
theorem elemInt : ElemOk Try.prog 3 Int 8 := ElemOk.mk' (n := 1) (by kernel_rfl) rfl (by decide)
@[go_sem ↓] theorem load_Call (v : Value) : Instr.loadAt 31 v = loadS 31 v := rfl
@[go_sem ↓] theorem store_Call (a v : Value) : Instr.storeAt 31 a v = storeS 31 a v := rfl
@[go_sem] theorem fold_Call (x0 : Int) (x1 : ByteArray) (x2 : ByteArray) (x3 : ByteArray) : Obj.cells #[.int .i64 x0, .string x1, .string x2, .string x3] 31 (0, 0) = Obj.cells (Call.cells (⟨x0, x1, x2, x3⟩ : Call)) 31 (0, 0) := by unfold Call.cells; rfl
@[go_sem ↓] theorem bin_eql_Call (x y : Value) : binOp .eql 31 x y = binS .eql 31 x y := rfl
@[go_sem] theorem runS_eql_Call (x y : Call) (w : World) : (binS .eql 31 (.agg x.cells) (.agg y.cells)).run Try.prog w = .ok (.bool (decide (x = y))) w := run_eql_Call x y w
@[go_sem ↓] theorem bin_neq_Call (x y : Value) : binOp .neq 31 x y = binS .neq 31 x y := rfl
@[go_sem] theorem runS_neq_Call (x y : Call) (w : World) : (binS .neq 31 (.agg x.cells) (.agg y.cells)).run Try.prog w = .ok (.bool (!decide (x = y))) w := run_neq_Call x y w
@[go_sem] theorem runS_bs0_Call_apiCall (w : World) : (sliceS 22 0 #[]).run Try.prog w = .ok (.slice (some ⟨w.heap.size, 0, none⟩) 0 0) (w.alloc (.cells #[] 31)) := run_bs0_Call_apiCall w
@[go_sem ↓] theorem bs_Call_apiCall (n : Nat) (ps : Array (Nat × Value)) : Instr.buildSlice 22 n ps = sliceS 22 n ps := rfl
@[go_sem] theorem runS_bs1_Call_apiCall (x : Call) (w : World) : (sliceS 22 1 #[(0, .agg x.cells)]).run Try.prog w = .ok (.slice (some ⟨w.heap.size, 0, none⟩) 1 1) (w.alloc (.cells x.cells 31)) := run_bs1_Call_apiCall x w
@[go_sem ↓] theorem load_Answer (v : Value) : Instr.loadAt 28 v = loadS 28 v := rfl
@[go_sem ↓] theorem store_Answer (a v : Value) : Instr.storeAt 28 a v = storeS 28 a v := rfl
@[go_sem] theorem fold_Answer (x0 : Int) (x1 : ByteArray) : Obj.cells #[.int .i64 x0, .string x1] 28 (0, 0) = Obj.cells (Answer.cells (⟨x0, x1⟩ : Answer)) 28 (0, 0) := by unfold Answer.cells; rfl
@[go_sem ↓] theorem bin_eql_Answer (x y : Value) : binOp .eql 28 x y = binS .eql 28 x y := rfl
@[go_sem] theorem runS_eql_Answer (x y : Answer) (w : World) : (binS .eql 28 (.agg x.cells) (.agg y.cells)).run Try.prog w = .ok (.bool (decide (x = y))) w := run_eql_Answer x y w
@[go_sem ↓] theorem bin_neq_Answer (x y : Value) : binOp .neq 28 x y = binS .neq 28 x y := rfl
@[go_sem] theorem runS_neq_Answer (x y : Answer) (w : World) : (binS .neq 28 (.agg x.cells) (.agg y.cells)).run Try.prog w = .ok (.bool (!decide (x = y))) w := run_neq_Answer x y w
@[go_sem ↓] theorem load_Packet (v : Value) : Instr.loadAt 131 v = loadS 131 v := rfl
@[go_sem ↓] theorem store_Packet (a v : Value) : Instr.storeAt 131 a v = storeS 131 a v := rfl
@[go_sem] theorem fold_Packet (x0 : Bool) (x1 : Int) (x2 : Int) (x3 : Int) (x4 : ByteArray) (x5 : ByteArray) (x6 : ByteArray) (x7 : Int) (x8 : ByteArray) : Obj.cells #[.bool x0, .int .i64 x1, .int .i64 x2, .int .i64 x3, .string x4, .string x5, .string x6, .int .i64 x7, .string x8] 131 (0, 0) = Obj.cells (Packet.cells (⟨x0, x1, x2, ⟨x3, x4, x5, x6⟩, ⟨x7, x8⟩⟩ : Packet)) 131 (0, 0) := by unfold Packet.cells; rfl
@[go_sem ↓] theorem bin_eql_Packet (x y : Value) : binOp .eql 131 x y = binS .eql 131 x y := rfl
@[go_sem] theorem runS_eql_Packet (x y : Packet) (w : World) : (binS .eql 131 (.agg x.cells) (.agg y.cells)).run Try.prog w = .ok (.bool (decide (x = y))) w := run_eql_Packet x y w
@[go_sem ↓] theorem bin_neq_Packet (x y : Value) : binOp .neq 131 x y = binS .neq 131 x y := rfl
@[go_sem] theorem runS_neq_Packet (x y : Packet) (w : World) : (binS .neq 131 (.agg x.cells) (.agg y.cells)).run Try.prog w = .ok (.bool (!decide (x = y))) w := run_neq_Packet x y w
@[go_sem] theorem runS_bs0_Packet_apiPacket (w : World) : (sliceS 86 0 #[]).run Try.prog w = .ok (.slice (some ⟨w.heap.size, 0, none⟩) 0 0) (w.alloc (.cells #[] 131)) := run_bs0_Packet_apiPacket w
@[go_sem ↓] theorem bs_Packet_apiPacket (n : Nat) (ps : Array (Nat × Value)) : Instr.buildSlice 86 n ps = sliceS 86 n ps := rfl
@[go_sem] theorem runS_bs1_Packet_apiPacket (x : Packet) (w : World) : (sliceS 86 1 #[(0, .agg x.cells)]).run Try.prog w = .ok (.slice (some ⟨w.heap.size, 0, none⟩) 1 1) (w.alloc (.cells x.cells 131)) := run_bs1_Packet_apiPacket x w
@[go_sem] theorem runS_bs0_Packet_postilionrefBag (w : World) : (sliceS 87 0 #[]).run Try.prog w = .ok (.slice (some ⟨w.heap.size, 0, none⟩) 0 0) (w.alloc (.cells #[] 131)) := run_bs0_Packet_postilionrefBag w
@[go_sem ↓] theorem bs_Packet_postilionrefBag (n : Nat) (ps : Array (Nat × Value)) : Instr.buildSlice 87 n ps = sliceS 87 n ps := rfl
@[go_sem] theorem runS_bs1_Packet_postilionrefBag (x : Packet) (w : World) : (sliceS 87 1 #[(0, .agg x.cells)]).run Try.prog w = .ok (.slice (some ⟨w.heap.size, 0, none⟩) 1 1) (w.alloc (.cells x.cells 131)) := run_bs1_Packet_postilionrefBag x w
@[go_sem ↓] theorem load_Record (v : Value) : Instr.loadAt 49 v = loadS 49 v := rfl
@[go_sem ↓] theorem store_Record (a v : Value) : Instr.storeAt 49 a v = storeS 49 a v := rfl
@[go_sem] theorem fold_Record (x0 : Int) (x1 : Int) (x2 : Int) (x3 : ByteArray) (x4 : ByteArray) (x5 : ByteArray) (x6 : Int) (x7 : ByteArray) : Obj.cells #[.int .i64 x0, .int .i64 x1, .int .i64 x2, .string x3, .string x4, .string x5, .int .i64 x6, .string x7] 49 (0, 0) = Obj.cells (Record.cells (⟨x0, x1, ⟨x2, x3, x4, x5⟩, ⟨x6, x7⟩⟩ : Record)) 49 (0, 0) := by unfold Record.cells; rfl
@[go_sem ↓] theorem bin_eql_Record (x y : Value) : binOp .eql 49 x y = binS .eql 49 x y := rfl
@[go_sem] theorem runS_eql_Record (x y : Record) (w : World) : (binS .eql 49 (.agg x.cells) (.agg y.cells)).run Try.prog w = .ok (.bool (decide (x = y))) w := run_eql_Record x y w
@[go_sem ↓] theorem bin_neq_Record (x y : Value) : binOp .neq 49 x y = binS .neq 49 x y := rfl
@[go_sem] theorem runS_neq_Record (x y : Record) (w : World) : (binS .neq 49 (.agg x.cells) (.agg y.cells)).run Try.prog w = .ok (.bool (!decide (x = y))) w := run_neq_Record x y w
@[go_sem] theorem runS_bs0_Record_apiRecord (w : World) : (sliceS 44 0 #[]).run Try.prog w = .ok (.slice (some ⟨w.heap.size, 0, none⟩) 0 0) (w.alloc (.cells #[] 49)) := run_bs0_Record_apiRecord w
@[go_sem ↓] theorem bs_Record_apiRecord (n : Nat) (ps : Array (Nat × Value)) : Instr.buildSlice 44 n ps = sliceS 44 n ps := rfl
@[go_sem] theorem runS_bs1_Record_apiRecord (x : Record) (w : World) : (sliceS 44 1 #[(0, .agg x.cells)]).run Try.prog w = .ok (.slice (some ⟨w.heap.size, 0, none⟩) 1 1) (w.alloc (.cells x.cells 49)) := run_bs1_Record_apiRecord x w
@[go_sem ↓] theorem load_FileF (v : Value) : Instr.loadAt 112 v = loadS 112 v := rfl
@[go_sem ↓] theorem store_FileF (a v : Value) : Instr.storeAt 112 a v = storeS 112 a v := rfl
@[go_sem] theorem fold_FileF (x0 : ByteArray) (x1 : ByteArray) : Obj.cells #[.string x0, .string x1] 112 (0, 0) = Obj.cells (FileD.cells (⟨x0, x1⟩ : FileD)) 112 (0, 0) := by unfold FileD.cells; rfl
@[go_sem] theorem runS_bs0_FileF_filesfile (w : World) : (sliceS 103 0 #[]).run Try.prog w = .ok (.slice (some ⟨w.heap.size, 0, none⟩) 0 0) (w.alloc (.cells #[] 112)) := run_bs0_FileF_filesfile w
@[go_sem ↓] theorem bs_FileF_filesfile (n : Nat) (ps : Array (Nat × Value)) : Instr.buildSlice 103 n ps = sliceS 103 n ps := rfl
@[go_sem] theorem runS_bs1_FileF_filesfile (x : FileD) (w : World) : (sliceS 103 1 #[(0, .agg x.cells)]).run Try.prog w = .ok (.slice (some ⟨w.heap.size, 0, none⟩) 1 1) (w.alloc (.cells x.cells 112)) := run_bs1_FileF_filesfile x w
@[go_sem ↓] theorem load_FileR (v : Value) : Instr.loadAt 120 v = loadS 120 v := rfl
@[go_sem ↓] theorem store_FileR (a v : Value) : Instr.storeAt 120 a v = storeS 120 a v := rfl
@[go_sem] theorem fold_FileR (x0 : ByteArray) (x1 : ByteArray) : Obj.cells #[.string x0, .string x1] 120 (0, 0) = Obj.cells (FileD.cells (⟨x0, x1⟩ : FileD)) 120 (0, 0) := by unfold FileD.cells; rfl
@[go_sem] theorem runS_bs0_FileR_postilionrefDrawer (w : World) : (sliceS 118 0 #[]).run Try.prog w = .ok (.slice (some ⟨w.heap.size, 0, none⟩) 0 0) (w.alloc (.cells #[] 120)) := run_bs0_FileR_postilionrefDrawer w
@[go_sem ↓] theorem bs_FileR_postilionrefDrawer (n : Nat) (ps : Array (Nat × Value)) : Instr.buildSlice 118 n ps = sliceS 118 n ps := rfl
@[go_sem] theorem runS_bs1_FileR_postilionrefDrawer (x : FileD) (w : World) : (sliceS 118 1 #[(0, .agg x.cells)]).run Try.prog w = .ok (.slice (some ⟨w.heap.size, 0, none⟩) 1 1) (w.alloc (.cells x.cells 120)) := run_bs1_FileR_postilionrefDrawer x w
@[go_sem ↓] theorem load_StoreStep (v : Value) : Instr.loadAt 61 v = loadS 61 v := rfl
@[go_sem ↓] theorem store_StoreStep (a v : Value) : Instr.storeAt 61 a v = storeS 61 a v := rfl
@[go_sem] theorem fold_StoreStep (x0 : Int) (x1 : Int) (x2 : Int) (x3 : Int) (x4 : Int) (x5 : ByteArray) (x6 : ByteArray) (x7 : ByteArray) : Obj.cells #[.int .i64 x0, .int .i64 x1, .int .i64 x2, .int .i64 x3, .int .i64 x4, .string x5, .string x6, .string x7] 61 (0, 0) = Obj.cells (StoreStep.cells (⟨x0, x1, x2, x3, ⟨x4, x5, x6, x7⟩⟩ : StoreStep)) 61 (0, 0) := by unfold StoreStep.cells; rfl
@[go_sem] theorem runS_bs0_StoreStep_postilionlawStoreStep (w : World) : (sliceS 38 0 #[]).run Try.prog w = .ok (.slice (some ⟨w.heap.size, 0, none⟩) 0 0) (w.alloc (.cells #[] 61)) := run_bs0_StoreStep_postilionlawStoreStep w
@[go_sem ↓] theorem bs_StoreStep_postilionlawStoreStep (n : Nat) (ps : Array (Nat × Value)) : Instr.buildSlice 38 n ps = sliceS 38 n ps := rfl
@[go_sem] theorem runS_bs1_StoreStep_postilionlawStoreStep (x : StoreStep) (w : World) : (sliceS 38 1 #[(0, .agg x.cells)]).run Try.prog w = .ok (.slice (some ⟨w.heap.size, 0, none⟩) 1 1) (w.alloc (.cells x.cells 61)) := run_bs1_StoreStep_postilionlawStoreStep x w
@[go_sem ↓] theorem load_Step (v : Value) : Instr.loadAt 100 v = loadS 100 v := rfl
@[go_sem ↓] theorem store_Step (a v : Value) : Instr.storeAt 100 a v = storeS 100 a v := rfl
@[go_sem] theorem fold_Step (x0 : Int) (x1 : Int) (x2 : Int) (x3 : Int) (x4 : ByteArray) (x5 : ByteArray) (x6 : ByteArray) : Obj.cells #[.int .i64 x0, .int .i64 x1, .int .i64 x2, .int .i64 x3, .string x4, .string x5, .string x6] 100 (0, 0) = Obj.cells (Step.cells (⟨x0, x1, x2, ⟨x3, x4, x5, x6⟩⟩ : Step)) 100 (0, 0) := by unfold Step.cells; rfl
@[go_sem] theorem runS_bs0_Step_apiStep (w : World) : (sliceS 75 0 #[]).run Try.prog w = .ok (.slice (some ⟨w.heap.size, 0, none⟩) 0 0) (w.alloc (.cells #[] 100)) := run_bs0_Step_apiStep w
@[go_sem ↓] theorem bs_Step_apiStep (n : Nat) (ps : Array (Nat × Value)) : Instr.buildSlice 75 n ps = sliceS 75 n ps := rfl
@[go_sem] theorem runS_bs1_Step_apiStep (x : Step) (w : World) : (sliceS 75 1 #[(0, .agg x.cells)]).run Try.prog w = .ok (.slice (some ⟨w.heap.size, 0, none⟩) 1 1) (w.alloc (.cells x.cells 100)) := run_bs1_Step_apiStep x w
attribute [go_sem] Call.fold_agg Answer.fold_agg Packet.fold_agg Record.fold_agg PostStep.fold_agg ClientStep.fold_agg FileD.fold_agg StoreStep.fold_agg Step.fold_agg
end Go.Proofs.Ytalfbhhldfffkab
