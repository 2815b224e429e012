/- Base: plain data of the program, how it lies in memory, and frames. No program is walked here. -/
import Derived.WalkKit
import Derived.Deep.RegionHeld
import Derived.WalkSpells
import Derived.WalkLawsBesides
import Derived.Deep.QuietTactic
import Derived.BigQuiet
import Derived.Lib.Hide
import Derived.Deep.AppendLies
import Derived.Deep.DrawnRows
set_option maxHeartbeats 8000000
set_option maxRecDepth 100000
namespace Go.Proofs.YtalfbhhldfffkaaGreatDoor
open Go.RowKit
theorem gT {α : Type _} {l : List α} {i : Nat} {a : Option α} (h : l[i]? = a) : l.toArray[i]? = a := List.getElem?_toArray.trans h
theorem aS {α : Type _} (l : List α) (i : Nat) (a : α) : l.toArray.setIfInBounds i a = (l.set i a).toArray := List.setIfInBounds_toArray ..
theorem a0 {α : Type _} (l : List α) (a b : α) : (a :: l).set 0 b = b :: l := rfl
theorem a1 {α : Type _} (l : List α) (i : Nat) (a b : α) : (a :: l).set (i + 1) b = a :: l.set i b := rfl
theorem aG {α : Type _} {l : Array α} {i : Nat} {a : α} (h : l[i]? = some a) : ∃ e : i < l.size, l[i] = a := Array.getElem?_eq_some_iff.1 h
theorem lG {α : Type _} {l : List α} {i : Nat} {a : α} (h : l[i]? = some a) : ∃ e : i < l.length, l[i] = a := List.getElem?_eq_some_iff.1 h
theorem bF {α : Type _} [BEq α] [LawfulBEq α] {a b : α} (h : a ≠ b) : (a == b) = false := beq_eq_false_iff_ne.2 h
theorem lh {p : Prop} (h : p) : Hid p := h
theorem pS : (∀ (t : Array Value) (d : List Deferred) (n : Nat) (v : Value), Act.put ⟨t, d⟩ (some n) v = ⟨t.setIfInBounds n v, d⟩) /\ (∀ (a : Act) (v : Value), a.put none v = a) /\ (∀ (l : List Value) (i : Nat) (x : Value), l.toArray.setIfInBounds i x = (l.set i x).toArray) /\ (∀ (l : List Bool) (i : Nat) (x : Bool), l.toArray.setIfInBounds i x = (l.set i x).toArray) /\ (∀ (x y : Value) (l : List Value), (x :: l).set 0 y = y :: l) /\ (∀ (x y : Bool) (l : List Bool), (x :: l).set 0 y = y :: l) /\ (∀ (x y : Value) (l : List Value) (i : Nat), (x :: l).set (i + 1) y = x :: l.set i y) /\ (∀ (x y : Bool) (l : List Bool) (i : Nat), (x :: l).set (i + 1) y = x :: l.set i y) := ⟨fun _ _ _ _ => rfl, fun _ _ => rfl, fun _ _ _ => aS .., fun _ _ _ => aS .., fun _ _ _ => rfl, fun _ _ _ => rfl, fun _ _ _ _ => rfl, fun _ _ _ _ => rfl⟩
section
variable {P : Program} {ops : Array Oper} {Q : Exit -> Act -> World -> Prop} {md : Region.Mode} {S : World -> Prop} {o : Oper} {v : Value} {fuel : Nat} {listed : Array Bool} {a : Act} {w : World}
theorem tK (i : Nat) (h : wpAnyH P md ops Q S fuel (listed.setIfInBounds i true) (a.put o.dst v) w) (hi : ops[i]? = some o := by exact gT rfl) (hs : Region.noSelect ops = true := by kernel_rfl) (hf : Region.free md ops listed i = true := by kernel_rfl) (hr : (Region.ready md ops listed).contains i = true := by kernel_rfl) (hQ : ∀ c a w, Q (.panic c) (a.put o.dst v) w -> Q (.panic c) a w := by exact fun _ _ _ h => h) (hw : Region.wanted o (yielded ops a.tmps) = true := by rfl) (hY : ∀ w', S w' -> (execOp a.eval o).run P w' = .ok (.value v) w' := by intro w' hw'; (try dsimp only at hw'); go_simp; try with_reducible rfl) (hS : S w := by assumption) : wpAnyH P md ops Q S (fuel + 1) listed a w := wpAnyH_take hi hs hf hr hQ (Or.inl ⟨hw, hY⟩) hS h
theorem tV (i : Nat) (v : Value) (hY : ∀ w', S w' -> (execOp a.eval o).run P w' = .ok (.value v) w') (h : wpAnyH P md ops Q S fuel (listed.setIfInBounds i true) (a.put o.dst v) w) (hi : ops[i]? = some o := by exact gT rfl) (hs : Region.noSelect ops = true := by kernel_rfl) (hf : Region.free md ops listed i = true := by kernel_rfl) (hr : (Region.ready md ops listed).contains i = true := by kernel_rfl) (hQ : ∀ c a w, Q (.panic c) (a.put o.dst v) w -> Q (.panic c) a w := by exact fun _ _ _ h => h) (hw : Region.wanted o (yielded ops a.tmps) = true := by rfl) (hS : S w := by assumption) : wpAnyH P md ops Q S (fuel + 1) listed a w := wpAnyH_take hi hs hf hr hQ (Or.inl ⟨hw, hY⟩) hS h
theorem tN (i : Nat) (h : wpAnyH P md ops Q S fuel (listed.setIfInBounds i true) (a.put o.dst undef) w) (hi : ops[i]? = some o := by exact gT rfl) (hs : Region.noSelect ops = true := by kernel_rfl) (hf : Region.free md ops listed i = true := by kernel_rfl) (hr : (Region.ready md ops listed).contains i = true := by kernel_rfl) (hQ : ∀ c a w, Q (.panic c) (a.put o.dst undef) w -> Q (.panic c) a w := by exact fun _ _ _ h => h) (hw : Region.wanted o (yielded ops a.tmps) = false := by rfl) (hS : S w := by assumption) : wpAnyH P md ops Q S (fuel + 1) listed a w := wpAnyH_take hi hs hf hr hQ (Or.inr ⟨hw, rfl⟩) hS h
theorem tC (i : Nat) (h : ∀ K' : Act -> World -> Prop, Shut (∀ a w, S w -> (S w -> wpAnyH P md ops Q S fuel (listed.setIfInBounds i true) a w) -> K' a w) -> if Region.wanted o (yielded ops a.tmps) = true then Oper.wp P o a w K' Q else K' (a.put o.dst undef) w) (ho : ops[i]? = some o := by exact gT rfl) (hr : Region.ready md ops listed = [i] := by kernel_rfl) : wpAnyH P md ops Q S (fuel + 1) listed a w := wpAnyH_ready hr (by simp) (AllReadyH.cons ho h AllReadyH.nil)
theorem tD (h : Q .normal a w) (hr : Region.ready md ops listed = [] := by kernel_rfl) : wpAnyH P md ops Q S fuel listed a w := wpAnyH_done hr h fuel
end
structure Call where
 kind : Int
 name : ByteArray
 to_ : ByteArray
 text : ByteArray
deriving DecidableEq
structure Answer where
 code : Int
 text : ByteArray
deriving DecidableEq
structure Packet where
 reply : Bool
 client : Int
 no : Int
 call : Call
 answer : Answer
deriving DecidableEq
structure Record where
 client : Int
 no : Int
 call : Call
 answer : Answer
deriving DecidableEq
structure PostStep where
 do_ : Int
 n : Int
 m : Packet
structure ClientStep where
 do_ : Int
 c : Call
 p : Packet
 a : Answer
structure FileD where
 name : ByteArray
 text : ByteArray
deriving DecidableEq
structure StoreStep where
 do_ : Int
 client : Int
 no : Int
 keep : Int
 call : Call
structure Step where
 kind : Int
 n : Int
 keep : Int
 call : Call
class Lies (α : Type) where
 size : Nat
 cells : α -> Array Value
 size_eq : ∀ x, (cells x).size = size
 one : ∀ x, ∀ u ∈ (cells x).toList, u.oneCell' = true
 pos : 0 < size
theorem Call.ext_iff' (x y : Call) : x = y ↔ x.kind = y.kind /\ x.name = y.name /\ x.to_ = y.to_ /\ x.text = y.text := by cases x; cases y; simp
theorem Answer.ext_iff' (x y : Answer) : x = y ↔ x.code = y.code /\ x.text = y.text := by cases x; cases y; simp
instance : Lies ByteArray := ⟨1, fun s => #[.string s], fun _ => rfl, fun x u h => by simp at h; subst h; rfl, by decide⟩
instance : Lies UInt8 := ⟨1, fun b => #[.int .u8 b.toNat], fun _ => rfl, fun x u h => by simp at h; subst h; rfl, by decide⟩
instance : Lies Int := ⟨1, fun b => #[.int .i64 b], fun _ => rfl, fun x u h => by simp at h; subst h; rfl, by decide⟩
def Call.cells (x : Call) : Array Value := #[.int .i64 x.kind, .string x.name, .string x.to_, .string x.text]
instance : Lies Call := ⟨4, Call.cells, fun _ => rfl, fun x u h => by simp [Call.cells] at h; rcases h with rfl | rfl | rfl | rfl <;> rfl, by decide⟩
@[go_sem, simp] theorem Call.size_cells (x : Call) : x.cells.size = 4 := by cases x; rfl
@[go_sem, simp] theorem Call.ne_empty (x : Call) : (x.cells = #[]) = False := by cases x; simp [Call.cells]
@[go_sem, simp] theorem Call.get0 (x : Call) : x.cells[0]? = some (.int .i64 x.kind) := by cases x; rfl
@[go_sem, simp] theorem Call.gete0 (x : Call) (h : 0 < x.cells.size) : x.cells[0] = .int .i64 x.kind := by cases x; rfl
@[go_sem, simp] theorem Call.get1 (x : Call) : x.cells[1]? = some (.string x.name) := by cases x; rfl
@[go_sem, simp] theorem Call.gete1 (x : Call) (h : 1 < x.cells.size) : x.cells[1] = .string x.name := by cases x; rfl
@[go_sem, simp] theorem Call.get2 (x : Call) : x.cells[2]? = some (.string x.to_) := by cases x; rfl
@[go_sem, simp] theorem Call.gete2 (x : Call) (h : 2 < x.cells.size) : x.cells[2] = .string x.to_ := by cases x; rfl
@[go_sem, simp] theorem Call.get3 (x : Call) : x.cells[3]? = some (.string x.text) := by cases x; rfl
@[go_sem, simp] theorem Call.gete3 (x : Call) (h : 3 < x.cells.size) : x.cells[3] = .string x.text := by cases x; rfl
@[go_sem, simp] theorem Call.ext_all (x : Call) : x.cells.extract 0 4 = x.cells := by cases x; simp [Call.cells]
@[go_sem, simp] theorem Call.set0 (x : Call) (v : Int) : x.cells.setIfInBounds 0 (.int .i64 v) = Call.cells { x with kind := v } := by cases x; rfl
@[go_sem, simp] theorem Call.set1 (x : Call) (v : ByteArray) : x.cells.setIfInBounds 1 (.string v) = Call.cells { x with name := v } := by cases x; rfl
@[go_sem, simp] theorem Call.set2 (x : Call) (v : ByteArray) : x.cells.setIfInBounds 2 (.string v) = Call.cells { x with to_ := v } := by cases x; rfl
@[go_sem, simp] theorem Call.set3 (x : Call) (v : ByteArray) : x.cells.setIfInBounds 3 (.string v) = Call.cells { x with text := v } := by cases x; rfl
theorem Call.fold_agg (x0 : Int) (x1 : ByteArray) (x2 : ByteArray) (x3 : ByteArray) : Value.agg #[.int .i64 x0, .string x1, .string x2, .string x3] = Value.agg (Call.cells (⟨x0, x1, x2, x3⟩ : Call)) := by unfold Call.cells; rfl
def Answer.cells (x : Answer) : Array Value := #[.int .i64 x.code, .string x.text]
instance : Lies Answer := ⟨2, Answer.cells, fun _ => rfl, fun x u h => by simp [Answer.cells] at h; rcases h with rfl | rfl <;> rfl, by decide⟩
@[go_sem, simp] theorem Answer.size_cells (x : Answer) : x.cells.size = 2 := by cases x; rfl
@[go_sem, simp] theorem Answer.ne_empty (x : Answer) : (x.cells = #[]) = False := by cases x; simp [Answer.cells]
@[go_sem, simp] theorem Answer.get0 (x : Answer) : x.cells[0]? = some (.int .i64 x.code) := by cases x; rfl
@[go_sem, simp] theorem Answer.gete0 (x : Answer) (h : 0 < x.cells.size) : x.cells[0] = .int .i64 x.code := by cases x; rfl
@[go_sem, simp] theorem Answer.get1 (x : Answer) : x.cells[1]? = some (.string x.text) := by cases x; rfl
@[go_sem, simp] theorem Answer.gete1 (x : Answer) (h : 1 < x.cells.size) : x.cells[1] = .string x.text := by cases x; rfl
@[go_sem, simp] theorem Answer.ext_all (x : Answer) : x.cells.extract 0 2 = x.cells := by cases x; simp [Answer.cells]
@[go_sem, simp] theorem Answer.set0 (x : Answer) (v : Int) : x.cells.setIfInBounds 0 (.int .i64 v) = Answer.cells { x with code := v } := by cases x; rfl
@[go_sem, simp] theorem Answer.set1 (x : Answer) (v : ByteArray) : x.cells.setIfInBounds 1 (.string v) = Answer.cells { x with text := v } := by cases x; rfl
theorem Answer.fold_agg (x0 : Int) (x1 : ByteArray) : Value.agg #[.int .i64 x0, .string x1] = Value.agg (Answer.cells (⟨x0, x1⟩ : Answer)) := by unfold Answer.cells; rfl
def Packet.cells (x : Packet) : Array Value := #[.bool x.reply, .int .i64 x.client, .int .i64 x.no, .int .i64 x.call.kind, .string x.call.name, .string x.call.to_, .string x.call.text, .int .i64 x.answer.code, .string x.answer.text]
instance : Lies Packet := ⟨9, Packet.cells, fun _ => rfl, fun x u h => by simp [Packet.cells] at h; rcases h with rfl | rfl | rfl | rfl | rfl | rfl | rfl | rfl | rfl <;> rfl, by decide⟩
@[go_sem, simp] theorem Packet.size_cells (x : Packet) : x.cells.size = 9 := by cases x; rfl
@[go_sem, simp] theorem Packet.ne_empty (x : Packet) : (x.cells = #[]) = False := by cases x; simp [Packet.cells]
@[go_sem, simp] theorem Packet.get0 (x : Packet) : x.cells[0]? = some (.bool x.reply) := by cases x; rfl
@[go_sem, simp] theorem Packet.gete0 (x : Packet) (h : 0 < x.cells.size) : x.cells[0] = .bool x.reply := by cases x; rfl
@[go_sem, simp] theorem Packet.get1 (x : Packet) : x.cells[1]? = some (.int .i64 x.client) := by cases x; rfl
@[go_sem, simp] theorem Packet.gete1 (x : Packet) (h : 1 < x.cells.size) : x.cells[1] = .int .i64 x.client := by cases x; rfl
@[go_sem, simp] theorem Packet.get2 (x : Packet) : x.cells[2]? = some (.int .i64 x.no) := by cases x; rfl
@[go_sem, simp] theorem Packet.gete2 (x : Packet) (h : 2 < x.cells.size) : x.cells[2] = .int .i64 x.no := by cases x; rfl
@[go_sem, simp] theorem Packet.get3 (x : Packet) : x.cells[3]? = some (.int .i64 x.call.kind) := by cases x; rfl
@[go_sem, simp] theorem Packet.gete3 (x : Packet) (h : 3 < x.cells.size) : x.cells[3] = .int .i64 x.call.kind := by cases x; rfl
@[go_sem, simp] theorem Packet.get4 (x : Packet) : x.cells[4]? = some (.string x.call.name) := by cases x; rfl
@[go_sem, simp] theorem Packet.gete4 (x : Packet) (h : 4 < x.cells.size) : x.cells[4] = .string x.call.name := by cases x; rfl
@[go_sem, simp] theorem Packet.get5 (x : Packet) : x.cells[5]? = some (.string x.call.to_) := by cases x; rfl
@[go_sem, simp] theorem Packet.gete5 (x : Packet) (h : 5 < x.cells.size) : x.cells[5] = .string x.call.to_ := by cases x; rfl
@[go_sem, simp] theorem Packet.get6 (x : Packet) : x.cells[6]? = some (.string x.call.text) := by cases x; rfl
@[go_sem, simp] theorem Packet.gete6 (x : Packet) (h : 6 < x.cells.size) : x.cells[6] = .string x.call.text := by cases x; rfl
@[go_sem, simp] theorem Packet.get7 (x : Packet) : x.cells[7]? = some (.int .i64 x.answer.code) := by cases x; rfl
@[go_sem, simp] theorem Packet.gete7 (x : Packet) (h : 7 < x.cells.size) : x.cells[7] = .int .i64 x.answer.code := by cases x; rfl
@[go_sem, simp] theorem Packet.get8 (x : Packet) : x.cells[8]? = some (.string x.answer.text) := by cases x; rfl
@[go_sem, simp] theorem Packet.gete8 (x : Packet) (h : 8 < x.cells.size) : x.cells[8] = .string x.answer.text := by cases x; rfl
@[go_sem, simp] theorem Packet.ext_all (x : Packet) : x.cells.extract 0 9 = x.cells := by cases x; simp [Packet.cells]
@[go_sem, simp] theorem Packet.ext_call (x : Packet) : x.cells.extract 3 7 = x.call.cells := by simp [Packet.cells, Call.cells]
@[go_sem, simp] theorem Packet.ext_answer (x : Packet) : x.cells.extract 7 9 = x.answer.cells := by simp [Packet.cells, Answer.cells]
@[go_sem, simp] theorem Packet.put_call (x : Packet) (c : Call) : Array.foldl (fun cs y => cs.setIfInBounds (3 + y.2) y.1) x.cells c.cells.zipIdx 0 4 = Packet.cells { x with call := c } := by cases x; cases c; rfl
@[go_sem, simp] theorem Packet.put_answer (x : Packet) (c : Answer) : Array.foldl (fun cs y => cs.setIfInBounds (7 + y.2) y.1) x.cells c.cells.zipIdx 0 2 = Packet.cells { x with answer := c } := by cases x; cases c; rfl
theorem Packet.part_call (x : Packet) : ∀ j v, x.call.cells[j]? = some v -> x.cells[3 + j]? = some v := fun j v h => by
 have hj := (aG h).1;rw [Call.size_cells] at hj;have : j = 0 \/ j = 1 \/ j = 2 \/ j = 3 := by omega
 rcases this with rfl | rfl | rfl | rfl <;> rw [<- h] <;> cases x <;> rfl
theorem Packet.part_answer (x : Packet) : ∀ j v, x.answer.cells[j]? = some v -> x.cells[7 + j]? = some v := fun j v h => by
 have hj := (aG h).1;rw [Answer.size_cells] at hj;have : j = 0 \/ j = 1 := by omega
 rcases this with rfl | rfl <;> rw [<- h] <;> cases x <;> rfl
@[go_sem, simp] theorem Packet.set0 (x : Packet) (v : Bool) : x.cells.setIfInBounds 0 (.bool v) = Packet.cells { x with reply := v } := by cases x; rfl
@[go_sem, simp] theorem Packet.set1 (x : Packet) (v : Int) : x.cells.setIfInBounds 1 (.int .i64 v) = Packet.cells { x with client := v } := by cases x; rfl
@[go_sem, simp] theorem Packet.set2 (x : Packet) (v : Int) : x.cells.setIfInBounds 2 (.int .i64 v) = Packet.cells { x with no := v } := by cases x; rfl
@[go_sem, simp] theorem Packet.set3 (x : Packet) (v : Int) : x.cells.setIfInBounds 3 (.int .i64 v) = Packet.cells { x with call := { x.call with kind := v } } := by cases x; rfl
@[go_sem, simp] theorem Packet.set4 (x : Packet) (v : ByteArray) : x.cells.setIfInBounds 4 (.string v) = Packet.cells { x with call := { x.call with name := v } } := by cases x; rfl
@[go_sem, simp] theorem Packet.set5 (x : Packet) (v : ByteArray) : x.cells.setIfInBounds 5 (.string v) = Packet.cells { x with call := { x.call with to_ := v } } := by cases x; rfl
@[go_sem, simp] theorem Packet.set6 (x : Packet) (v : ByteArray) : x.cells.setIfInBounds 6 (.string v) = Packet.cells { x with call := { x.call with text := v } } := by cases x; rfl
@[go_sem, simp] theorem Packet.set7 (x : Packet) (v : Int) : x.cells.setIfInBounds 7 (.int .i64 v) = Packet.cells { x with answer := { x.answer with code := v } } := by cases x; rfl
@[go_sem, simp] theorem Packet.set8 (x : Packet) (v : ByteArray) : x.cells.setIfInBounds 8 (.string v) = Packet.cells { x with answer := { x.answer with text := v } } := by cases x; rfl
theorem Packet.fold_agg (x0 : Bool) (x1 : Int) (x2 : Int) (x3 : Int) (x4 : ByteArray) (x5 : ByteArray) (x6 : ByteArray) (x7 : Int) (x8 : ByteArray) : Value.agg #[.bool x0, .int .i64 x1, .int .i64 x2, .int .i64 x3, .string x4, .string x5, .string x6, .int .i64 x7, .string x8] = Value.agg (Packet.cells (⟨x0, x1, x2, ⟨x3, x4, x5, x6⟩, ⟨x7, x8⟩⟩ : Packet)) := by unfold Packet.cells; rfl
def Record.cells (x : Record) : Array Value := #[.int .i64 x.client, .int .i64 x.no, .int .i64 x.call.kind, .string x.call.name, .string x.call.to_, .string x.call.text, .int .i64 x.answer.code, .string x.answer.text]
instance : Lies Record := ⟨8, Record.cells, fun _ => rfl, fun x u h => by simp [Record.cells] at h; rcases h with rfl | rfl | rfl | rfl | rfl | rfl | rfl | rfl <;> rfl, by decide⟩
@[go_sem, simp] theorem Record.size_cells (x : Record) : x.cells.size = 8 := by cases x; rfl
@[go_sem, simp] theorem Record.ne_empty (x : Record) : (x.cells = #[]) = False := by cases x; simp [Record.cells]
@[go_sem, simp] theorem Record.get0 (x : Record) : x.cells[0]? = some (.int .i64 x.client) := by cases x; rfl
@[go_sem, simp] theorem Record.gete0 (x : Record) (h : 0 < x.cells.size) : x.cells[0] = .int .i64 x.client := by cases x; rfl
@[go_sem, simp] theorem Record.get1 (x : Record) : x.cells[1]? = some (.int .i64 x.no) := by cases x; rfl
@[go_sem, simp] theorem Record.gete1 (x : Record) (h : 1 < x.cells.size) : x.cells[1] = .int .i64 x.no := by cases x; rfl
@[go_sem, simp] theorem Record.get2 (x : Record) : x.cells[2]? = some (.int .i64 x.call.kind) := by cases x; rfl
@[go_sem, simp] theorem Record.gete2 (x : Record) (h : 2 < x.cells.size) : x.cells[2] = .int .i64 x.call.kind := by cases x; rfl
@[go_sem, simp] theorem Record.get3 (x : Record) : x.cells[3]? = some (.string x.call.name) := by cases x; rfl
@[go_sem, simp] theorem Record.gete3 (x : Record) (h : 3 < x.cells.size) : x.cells[3] = .string x.call.name := by cases x; rfl
@[go_sem, simp] theorem Record.get4 (x : Record) : x.cells[4]? = some (.string x.call.to_) := by cases x; rfl
@[go_sem, simp] theorem Record.gete4 (x : Record) (h : 4 < x.cells.size) : x.cells[4] = .string x.call.to_ := by cases x; rfl
@[go_sem, simp] theorem Record.get5 (x : Record) : x.cells[5]? = some (.string x.call.text) := by cases x; rfl
@[go_sem, simp] theorem Record.gete5 (x : Record) (h : 5 < x.cells.size) : x.cells[5] = .string x.call.text := by cases x; rfl
@[go_sem, simp] theorem Record.get6 (x : Record) : x.cells[6]? = some (.int .i64 x.answer.code) := by cases x; rfl
@[go_sem, simp] theorem Record.gete6 (x : Record) (h : 6 < x.cells.size) : x.cells[6] = .int .i64 x.answer.code := by cases x; rfl
@[go_sem, simp] theorem Record.get7 (x : Record) : x.cells[7]? = some (.string x.answer.text) := by cases x; rfl
@[go_sem, simp] theorem Record.gete7 (x : Record) (h : 7 < x.cells.size) : x.cells[7] = .string x.answer.text := by cases x; rfl
@[go_sem, simp] theorem Record.ext_all (x : Record) : x.cells.extract 0 8 = x.cells := by cases x; simp [Record.cells]
@[go_sem, simp] theorem Record.ext_call (x : Record) : x.cells.extract 2 6 = x.call.cells := by simp [Record.cells, Call.cells]
@[go_sem, simp] theorem Record.ext_answer (x : Record) : x.cells.extract 6 8 = x.answer.cells := by simp [Record.cells, Answer.cells]
@[go_sem, simp] theorem Record.put_call (x : Record) (c : Call) : Array.foldl (fun cs y => cs.setIfInBounds (2 + y.2) y.1) x.cells c.cells.zipIdx 0 4 = Record.cells { x with call := c } := by cases x; cases c; rfl
@[go_sem, simp] theorem Record.put_answer (x : Record) (c : Answer) : Array.foldl (fun cs y => cs.setIfInBounds (6 + y.2) y.1) x.cells c.cells.zipIdx 0 2 = Record.cells { x with answer := c } := by cases x; cases c; rfl
theorem Record.part_call (x : Record) : ∀ j v, x.call.cells[j]? = some v -> x.cells[2 + j]? = some v := fun j v h => by
 have hj := (aG h).1;rw [Call.size_cells] at hj;have : j = 0 \/ j = 1 \/ j = 2 \/ j = 3 := by omega
 rcases this with rfl | rfl | rfl | rfl <;> rw [<- h] <;> cases x <;> rfl
theorem Record.part_answer (x : Record) : ∀ j v, x.answer.cells[j]? = some v -> x.cells[6 + j]? = some v := fun j v h => by
 have hj := (aG h).1;rw [Answer.size_cells] at hj;have : j = 0 \/ j = 1 := by omega
 rcases this with rfl | rfl <;> rw [<- h] <;> cases x <;> rfl
@[go_sem, simp] theorem Record.set0 (x : Record) (v : Int) : x.cells.setIfInBounds 0 (.int .i64 v) = Record.cells { x with client := v } := by cases x; rfl
@[go_sem, simp] theorem Record.set1 (x : Record) (v : Int) : x.cells.setIfInBounds 1 (.int .i64 v) = Record.cells { x with no := v } := by cases x; rfl
@[go_sem, simp] theorem Record.set2 (x : Record) (v : Int) : x.cells.setIfInBounds 2 (.int .i64 v) = Record.cells { x with call := { x.call with kind := v } } := by cases x; rfl
@[go_sem, simp] theorem Record.set3 (x : Record) (v : ByteArray) : x.cells.setIfInBounds 3 (.string v) = Record.cells { x with call := { x.call with name := v } } := by cases x; rfl
@[go_sem, simp] theorem Record.set4 (x : Record) (v : ByteArray) : x.cells.setIfInBounds 4 (.string v) = Record.cells { x with call := { x.call with to_ := v } } := by cases x; rfl
@[go_sem, simp] theorem Record.set5 (x : Record) (v : ByteArray) : x.cells.setIfInBounds 5 (.string v) = Record.cells { x with call := { x.call with text := v } } := by cases x; rfl
@[go_sem, simp] theorem Record.set6 (x : Record) (v : Int) : x.cells.setIfInBounds 6 (.int .i64 v) = Record.cells { x with answer := { x.answer with code := v } } := by cases x; rfl
@[go_sem, simp] theorem Record.set7 (x : Record) (v : ByteArray) : x.cells.setIfInBounds 7 (.string v) = Record.cells { x with answer := { x.answer with text := v } } := by cases x; rfl
theorem Record.fold_agg (x0 : Int) (x1 : Int) (x2 : Int) (x3 : ByteArray) (x4 : ByteArray) (x5 : ByteArray) (x6 : Int) (x7 : ByteArray) : Value.agg #[.int .i64 x0, .int .i64 x1, .int .i64 x2, .string x3, .string x4, .string x5, .int .i64 x6, .string x7] = Value.agg (Record.cells (⟨x0, x1, ⟨x2, x3, x4, x5⟩, ⟨x6, x7⟩⟩ : Record)) := by unfold Record.cells; rfl
def PostStep.cells (x : PostStep) : Array Value := #[.int .i64 x.do_, .int .i64 x.n, .bool x.m.reply, .int .i64 x.m.client, .int .i64 x.m.no, .int .i64 x.m.call.kind, .string x.m.call.name, .string x.m.call.to_, .string x.m.call.text, .int .i64 x.m.answer.code, .string x.m.answer.text]
instance : Lies PostStep := ⟨11, PostStep.cells, fun _ => rfl, fun x u h => by simp [PostStep.cells] at h; rcases h with rfl | rfl | rfl | rfl | rfl | rfl | rfl | rfl | rfl | rfl | rfl <;> rfl, by decide⟩
theorem PostStep.fold_agg (x0 : Int) (x1 : Int) (x2 : Bool) (x3 : Int) (x4 : Int) (x5 : Int) (x6 : ByteArray) (x7 : ByteArray) (x8 : ByteArray) (x9 : Int) (x10 : ByteArray) : Value.agg #[.int .i64 x0, .int .i64 x1, .bool x2, .int .i64 x3, .int .i64 x4, .int .i64 x5, .string x6, .string x7, .string x8, .int .i64 x9, .string x10] = Value.agg (PostStep.cells (⟨x0, x1, ⟨x2, x3, x4, ⟨x5, x6, x7, x8⟩, ⟨x9, x10⟩⟩⟩ : PostStep)) := by unfold PostStep.cells; rfl
def ClientStep.cells (x : ClientStep) : Array Value := #[.int .i64 x.do_, .int .i64 x.c.kind, .string x.c.name, .string x.c.to_, .string x.c.text, .bool x.p.reply, .int .i64 x.p.client, .int .i64 x.p.no, .int .i64 x.p.call.kind, .string x.p.call.name, .string x.p.call.to_, .string x.p.call.text, .int .i64 x.p.answer.code, .string x.p.answer.text, .int .i64 x.a.code, .string x.a.text]
instance : Lies ClientStep := ⟨16, ClientStep.cells, fun _ => rfl, fun x u h => by simp [ClientStep.cells] at h; rcases h with rfl | rfl | rfl | rfl | rfl | rfl | rfl | rfl | rfl | rfl | rfl | rfl | rfl | rfl | rfl | rfl <;> rfl, by decide⟩
theorem ClientStep.fold_agg (x0 : Int) (x1 : Int) (x2 : ByteArray) (x3 : ByteArray) (x4 : ByteArray) (x5 : Bool) (x6 : Int) (x7 : Int) (x8 : Int) (x9 : ByteArray) (x10 : ByteArray) (x11 : ByteArray) (x12 : Int) (x13 : ByteArray) (x14 : Int) (x15 : ByteArray) : Value.agg #[.int .i64 x0, .int .i64 x1, .string x2, .string x3, .string x4, .bool x5, .int .i64 x6, .int .i64 x7, .int .i64 x8, .string x9, .string x10, .string x11, .int .i64 x12, .string x13, .int .i64 x14, .string x15] = Value.agg (ClientStep.cells (⟨x0, ⟨x1, x2, x3, x4⟩, ⟨x5, x6, x7, ⟨x8, x9, x10, x11⟩, ⟨x12, x13⟩⟩, ⟨x14, x15⟩⟩ : ClientStep)) := by unfold ClientStep.cells; rfl
def FileD.cells (x : FileD) : Array Value := #[.string x.name, .string x.text]
instance : Lies FileD := ⟨2, FileD.cells, fun _ => rfl, fun x u h => by simp [FileD.cells] at h; rcases h with rfl | rfl <;> rfl, by decide⟩
@[go_sem, simp] theorem FileD.size_cells (x : FileD) : x.cells.size = 2 := by cases x; rfl
@[go_sem, simp] theorem FileD.ne_empty (x : FileD) : (x.cells = #[]) = False := by cases x; simp [FileD.cells]
@[go_sem, simp] theorem FileD.get0 (x : FileD) : x.cells[0]? = some (.string x.name) := by cases x; rfl
@[go_sem, simp] theorem FileD.gete0 (x : FileD) (h : 0 < x.cells.size) : x.cells[0] = .string x.name := by cases x; rfl
@[go_sem, simp] theorem FileD.get1 (x : FileD) : x.cells[1]? = some (.string x.text) := by cases x; rfl
@[go_sem, simp] theorem FileD.gete1 (x : FileD) (h : 1 < x.cells.size) : x.cells[1] = .string x.text := by cases x; rfl
@[go_sem, simp] theorem FileD.ext_all (x : FileD) : x.cells.extract 0 2 = x.cells := by cases x; simp [FileD.cells]
@[go_sem, simp] theorem FileD.set0 (x : FileD) (v : ByteArray) : x.cells.setIfInBounds 0 (.string v) = FileD.cells { x with name := v } := by cases x; rfl
@[go_sem, simp] theorem FileD.set1 (x : FileD) (v : ByteArray) : x.cells.setIfInBounds 1 (.string v) = FileD.cells { x with text := v } := by cases x; rfl
theorem FileD.fold_agg (x0 : ByteArray) (x1 : ByteArray) : Value.agg #[.string x0, .string x1] = Value.agg (FileD.cells (⟨x0, x1⟩ : FileD)) := by unfold FileD.cells; rfl
def StoreStep.cells (x : StoreStep) : Array Value := #[.int .i64 x.do_, .int .i64 x.client, .int .i64 x.no, .int .i64 x.keep, .int .i64 x.call.kind, .string x.call.name, .string x.call.to_, .string x.call.text]
instance : Lies StoreStep := ⟨8, StoreStep.cells, fun _ => rfl, fun x u h => by simp [StoreStep.cells] at h; rcases h with rfl | rfl | rfl | rfl | rfl | rfl | rfl | rfl <;> rfl, by decide⟩
theorem StoreStep.fold_agg (x0 : Int) (x1 : Int) (x2 : Int) (x3 : Int) (x4 : Int) (x5 : ByteArray) (x6 : ByteArray) (x7 : ByteArray) : Value.agg #[.int .i64 x0, .int .i64 x1, .int .i64 x2, .int .i64 x3, .int .i64 x4, .string x5, .string x6, .string x7] = Value.agg (StoreStep.cells (⟨x0, x1, x2, x3, ⟨x4, x5, x6, x7⟩⟩ : StoreStep)) := by unfold StoreStep.cells; rfl
def Step.cells (x : Step) : Array Value := #[.int .i64 x.kind, .int .i64 x.n, .int .i64 x.keep, .int .i64 x.call.kind, .string x.call.name, .string x.call.to_, .string x.call.text]
instance : Lies Step := ⟨7, Step.cells, fun _ => rfl, fun x u h => by simp [Step.cells] at h; rcases h with rfl | rfl | rfl | rfl | rfl | rfl | rfl <;> rfl, by decide⟩
@[go_sem, simp] theorem Step.size_cells (x : Step) : x.cells.size = 7 := by cases x; rfl
@[go_sem, simp] theorem Step.ne_empty (x : Step) : (x.cells = #[]) = False := by cases x; simp [Step.cells]
@[go_sem, simp] theorem Step.get0 (x : Step) : x.cells[0]? = some (.int .i64 x.kind) := by cases x; rfl
@[go_sem, simp] theorem Step.gete0 (x : Step) (h : 0 < x.cells.size) : x.cells[0] = .int .i64 x.kind := by cases x; rfl
@[go_sem, simp] theorem Step.get1 (x : Step) : x.cells[1]? = some (.int .i64 x.n) := by cases x; rfl
@[go_sem, simp] theorem Step.gete1 (x : Step) (h : 1 < x.cells.size) : x.cells[1] = .int .i64 x.n := by cases x; rfl
@[go_sem, simp] theorem Step.get2 (x : Step) : x.cells[2]? = some (.int .i64 x.keep) := by cases x; rfl
@[go_sem, simp] theorem Step.gete2 (x : Step) (h : 2 < x.cells.size) : x.cells[2] = .int .i64 x.keep := by cases x; rfl
@[go_sem, simp] theorem Step.get3 (x : Step) : x.cells[3]? = some (.int .i64 x.call.kind) := by cases x; rfl
@[go_sem, simp] theorem Step.gete3 (x : Step) (h : 3 < x.cells.size) : x.cells[3] = .int .i64 x.call.kind := by cases x; rfl
@[go_sem, simp] theorem Step.get4 (x : Step) : x.cells[4]? = some (.string x.call.name) := by cases x; rfl
@[go_sem, simp] theorem Step.gete4 (x : Step) (h : 4 < x.cells.size) : x.cells[4] = .string x.call.name := by cases x; rfl
@[go_sem, simp] theorem Step.get5 (x : Step) : x.cells[5]? = some (.string x.call.to_) := by cases x; rfl
@[go_sem, simp] theorem Step.gete5 (x : Step) (h : 5 < x.cells.size) : x.cells[5] = .string x.call.to_ := by cases x; rfl
@[go_sem, simp] theorem Step.get6 (x : Step) : x.cells[6]? = some (.string x.call.text) := by cases x; rfl
@[go_sem, simp] theorem Step.gete6 (x : Step) (h : 6 < x.cells.size) : x.cells[6] = .string x.call.text := by cases x; rfl
@[go_sem, simp] theorem Step.ext_all (x : Step) : x.cells.extract 0 7 = x.cells := by cases x; simp [Step.cells]
@[go_sem, simp] theorem Step.ext_call (x : Step) : x.cells.extract 3 7 = x.call.cells := by simp [Step.cells, Call.cells]
@[go_sem, simp] theorem Step.put_call (x : Step) (c : Call) : Array.foldl (fun cs y => cs.setIfInBounds (3 + y.2) y.1) x.cells c.cells.zipIdx 0 4 = Step.cells { x with call := c } := by cases x; cases c; rfl
@[go_sem, simp] theorem Step.set0 (x : Step) (v : Int) : x.cells.setIfInBounds 0 (.int .i64 v) = Step.cells { x with kind := v } := by cases x; rfl
@[go_sem, simp] theorem Step.set1 (x : Step) (v : Int) : x.cells.setIfInBounds 1 (.int .i64 v) = Step.cells { x with n := v } := by cases x; rfl
@[go_sem, simp] theorem Step.set2 (x : Step) (v : Int) : x.cells.setIfInBounds 2 (.int .i64 v) = Step.cells { x with keep := v } := by cases x; rfl
@[go_sem, simp] theorem Step.set3 (x : Step) (v : Int) : x.cells.setIfInBounds 3 (.int .i64 v) = Step.cells { x with call := { x.call with kind := v } } := by cases x; rfl
@[go_sem, simp] theorem Step.set4 (x : Step) (v : ByteArray) : x.cells.setIfInBounds 4 (.string v) = Step.cells { x with call := { x.call with name := v } } := by cases x; rfl
@[go_sem, simp] theorem Step.set5 (x : Step) (v : ByteArray) : x.cells.setIfInBounds 5 (.string v) = Step.cells { x with call := { x.call with to_ := v } } := by cases x; rfl
@[go_sem, simp] theorem Step.set6 (x : Step) (v : ByteArray) : x.cells.setIfInBounds 6 (.string v) = Step.cells { x with call := { x.call with text := v } } := by cases x; rfl
theorem Step.fold_agg (x0 : Int) (x1 : Int) (x2 : Int) (x3 : Int) (x4 : ByteArray) (x5 : ByteArray) (x6 : ByteArray) : Value.agg #[.int .i64 x0, .int .i64 x1, .int .i64 x2, .int .i64 x3, .string x4, .string x5, .string x6] = Value.agg (Step.cells (⟨x0, x1, x2, ⟨x3, x4, x5, x6⟩⟩ : Step)) := by unfold Step.cells; rfl
theorem ba_eq (a b : ByteArray) : a = b ↔ a.toList = b.toList := by
 rw [ByteArray.toList_eq, ByteArray.toList_eq];obtain ⟨⟨x⟩⟩ := a;obtain ⟨⟨y⟩⟩ := b;simp
structure Touch (S : Nat -> Prop) (w w' : World) : Prop where
 os : w'.os = w.os
 tape : w'.tape = w.tape
 output : w'.output = w.output
 size : w.heap.size <= w'.heap.size
 block : ∀ k, k < w.heap.size -> ¬ S k -> w'.heap[k]? = w.heap[k]?
def Ext : World -> World -> Prop := Touch (fun _ => False)
section
variable {S T : Nat -> Prop} {w w' w'' : World}
theorem Touch.refl (S : Nat -> Prop) (w : World) : Touch S w w := ⟨rfl, rfl, rfl, Nat.le_refl _, fun _ _ _ => rfl⟩
theorem Touch.trans (h : Touch S w w') (h' : Touch S w' w'') : Touch S w w'' :=
 ⟨h'.os.trans h.os, h'.tape.trans h.tape, h'.output.trans h.output, Nat.le_trans h.size h'.size, fun k hk hs => (h'.block k (Nat.lt_of_lt_of_le hk h.size) hs).trans (h.block k hk hs)⟩
theorem Touch.then (h : Touch S w w') (h' : Touch T w' w'') (ht : ∀ k, T k -> S k \/ w.heap.size <= k) : Touch S w w'' :=
 ⟨h'.os.trans h.os, h'.tape.trans h.tape, h'.output.trans h.output, Nat.le_trans h.size h'.size, fun k hk hs => (h'.block k (Nat.lt_of_lt_of_le hk h.size) (fun hT => by rcases ht k hT with h1 | h1 <;> first | exact hs h1 | omega)).trans (h.block k hk hs)⟩
theorem Touch.mono (h : Touch T w w') (ht : ∀ k, T k -> S k \/ w.heap.size <= k) : Touch S w w' := (Touch.refl S w).then h ht
theorem Touch.drew (h : Touch S w w') : Touch S w w'.drew := ⟨h.os, h.tape, h.output, h.size, h.block⟩
theorem Touch.drewN (h : Touch S w w') (n : Nat) : Touch S w (w'.drewN n) := ⟨h.os, h.tape, h.output, h.size, h.block⟩
theorem Touch.alloc (h : Touch S w w') (o : Obj) : Touch S w (w'.alloc o) :=
 h.then (T := fun _ => False) ⟨rfl, rfl, rfl, by simp, fun k hk _ => Below.heap_alloc _ _ _ hk⟩ (fun _ h => h.elim)
theorem Touch.setRow (h : Touch S w w') {g : Nat} (hg : S g \/ w.heap.size <= g) (cs : Array Value) : Touch S w (w'.setRow g cs) :=
 h.then (T := fun k => k = g) ⟨rfl, rfl, rfl, by simp, fun k _ hk => setRow_other _ _ _ _ hk⟩ (fun k e => by subst e; exact hg)
theorem Touch.setCell (h : Touch S w w') {a : Addr} (hg : S a.block \/ w.heap.size <= a.block) (v : Value) : Touch S w (w'.setCell a v) :=
 h.then (T := fun k => k = a.block) ⟨rfl, rfl, rfl, by simp, fun k _ hk => heap_setCell_other _ _ _ _ hk⟩ (fun k e => by subst e; exact hg)
theorem Touch.grown (h : Touch S w w') {row : Option Nat} (hg : w'.grownBy w'' row) (hr : ∀ k, row = some k -> S k \/ w.heap.size <= k) : Touch S w w'' :=
 h.then (T := fun k => row = some k) ⟨hg.os, hg.tape, hg.output, hg.size, fun k hk hn => hg.block k hk (fun e => hn e.symm)⟩ (fun k e => hr k e)
end
def At {α : Type} [Lies α] (w : World) (a : Addr) (x : α) : Prop := ∀ j v, (Lies.cells x)[j]? = some v -> w.cell? (a.add j) = some v
theorem At.of_same {α : Type} [Lies α] {w w' : World} {a : Addr} {x : α} (h : At w a x) (hb : w'.heap[a.block]? = w.heap[a.block]?) : At w' a x := fun j v hv => by
 have : (a.add j).block = a.block := by unfold Addr.add; split <;> rfl
 rw [World.cell?_of_block (w := w) (by rw [this]; exact hb)];exact h j v hv
def Reads {α : Type} [Lies α] (w : World) (B : Nat) (A : Option Addr) (l : List α) : Prop :=
 ∀ k x, l[k]? = some x -> ∃ ad, A = some ad /\ ad.block < B /\ At w (ad.add (k * Lies.size α)) x
theorem Reads.below {α : Type} [Lies α] {w w' : World} {B : Nat} {A : Option Addr} {l : List α} (h : Reads w B A l) (hb : ∀ k, k < B -> w'.heap[k]? = w.heap[k]?) : Reads w' B A l := fun k x hk => by
 obtain ⟨ad, rfl, hlt, hat⟩ := h k x hk;have : (ad.add (k * Lies.size α)).block = ad.block := by unfold Addr.add; split <;> rfl
 exact ⟨ad, rfl, hlt, hat.of_same (by rw [this]; exact hb _ hlt)⟩
def loadS (t : TypeId) (v : Value) : Sem Value := Instr.loadAt t v
def storeS (t : TypeId) (a v : Value) : Sem Unit := Instr.storeAt t a v
def binS (op : BinOp) (t : TypeId) (x y : Value) : Sem Value := binOp op t x y
def sliceS (t : TypeId) (n : Nat) (parts : Array (Nat × Value)) : Sem Value := Instr.buildSlice t n parts
def LV (P : Program) (t : TypeId) (a : Addr) (w : World) : Result Value := (loadVar t a).run P w
@[go_sem] theorem run_loadS (P : Program) (t : TypeId) (a : Addr) (w : World) : (loadS t (.pointer (some a))).run P w = LV P t a w := rfl
theorem loadVar_cells {P : Program} {w : World} {a : Addr} {cs : Array Value} {ty : TypeId} {fs : Array Field} (h : ∀ j v, cs[j]? = some v -> w.cell? (a.add j) = some v) (hu : P.underlying ty = some (.struct fs)) (hi : (P.info? ty).map (·.size) = some cs.size) :
 (loadVar ty a).run P w = .ok (.agg cs) w := by
 obtain ⟨xs⟩ := cs;cases hq : P.info? ty with
 | none => simp [hq] at hi
 | some i =>
   have hs : i.size = xs.length := by simpa [hq] using hi
   have hagg : (isAgg ty).run P w = .ok true w := by
    unfold isAgg;rw [Sem.run_bind, run_underlying hu w];simp
   simp [loadVar, Sem.run_bind, hagg, sizeOf, typeInfo, hq, hs, run_loadCells_list w a xs (fun j v hv => h j v (by simpa using hv))]
structure IsType (P : Program) (ty : TypeId) (α : Type) [Lies α] : Prop where
 under : ∃ fs, P.underlying ty = some (.struct fs)
 size : (P.info? ty).map (·.size) = some (Lies.size α)
theorem LV_at {α : Type} [Lies α] {P : Program} {ty : TypeId} (ht : IsType P ty α) {w : World} {a : Addr} {x : α} (h : At w a x) : LV P ty a w = .ok (.agg (Lies.cells x)) w := by
 obtain ⟨fs, hu⟩ := ht.under;exact loadVar_cells h hu (by rw [ht.size, Lies.size_eq])
theorem LV_block {P : Program} {ty : TypeId} {fs : Array Field} {n : Nat} (hu : P.underlying ty = some (.struct fs)) (hi : (P.info? ty).map (·.size) = some n) {w : World} {b o : Nat} {cs : Array Value} {t : TypeId} {fr : Nat × Nat}
 (hg : w.heap[b]? = some (.cells cs t fr)) (ho : o + n <= cs.size) : LV P ty ⟨b, o, none⟩ w = .ok (.agg (cs.extract o (o + n))) w := by
 refine loadVar_cells (fun j v hv => ?_) hu (by rw [hi, Array.size_extract]; congr 1; omega);have hadd : (⟨b, o, none⟩ : Addr).add j = ⟨b, o + j, none⟩ := by unfold Addr.add; split <;> simp_all
 rw [hadd, cell_of_row w b (o + j) cs t fr hg];rw [Array.getElem?_extract] at hv;split at hv
 ·exact hv
 ·cases hv
theorem storeVar_block {P : Program} {ty : TypeId} {w : World} {b o : Nat} {old cs : Array Value} {t : TypeId} (hi : (P.info? ty).map (·.size) = some cs.size) (h1 : ∀ u ∈ cs.toList, u.oneCell' = true)
 (hg : w.heap[b]? = some (.cells old t (0, 0))) (ho : o + cs.size <= old.size) :
 (storeVar ty ⟨b, o, none⟩ (.agg cs)).run P w = .ok () (w.setRow b (old.toList.take o ++ cs.toList ++ old.toList.drop (o + cs.size)).toArray) := by
 cases hq : P.info? ty with
 | none => simp [hq] at hi
 | some i =>
   have hs : i.size = cs.size := by simpa [hq] using hi
   have hst := run_storeCells_at P b o t cs.toList 0 old w hg (by simpa using ho) h1;simp only [Nat.add_zero, Array.length_toList] at hst;simp [storeVar, sizeOf, typeInfo, hq, hs, Value.cells, hst]
def LVx (P : Program) (t : TypeId) (a : Addr) (w : World) : Result Value := LV P t a w
def objPart (o n : Nat) : Option Obj -> Option (Array Value)
 | some (.cells cs _ _) => if o + n <= cs.size then some (cs.extract o (o + n)) else none
 | _ => none
@[go_sem] theorem objPart_cells (o n : Nat) (cs : Array Value) (t : TypeId) (fr : Nat × Nat) (h : o + n <= cs.size) : objPart o n (some (.cells cs t fr)) = some (cs.extract o (o + n)) := by simp [objPart, h]
def LVp (P : Program) (ty : TypeId) (b o : Nat) (w : World) : Option (Array Value) -> Result Value
 | some cs => .ok (.agg cs) w
 | none => LVx P ty ⟨b, o, none⟩ w
@[go_sem] theorem LVp_some (P : Program) (ty : TypeId) (b o : Nat) (w : World) (cs : Array Value) : LVp P ty b o w (some cs) = .ok (.agg cs) w := by simp only [LVp]
theorem LVp_eq {P : Program} {ty : TypeId} {fs : Array Field} {n : Nat} (hu : P.underlying ty = some (.struct fs)) (hi : (P.info? ty).map (·.size) = some n) (b o : Nat) (w : World) :
 LV P ty ⟨b, o, none⟩ w = LVp P ty b o w (objPart o n (w.heap[b]?)) := by
 unfold objPart;split
 ·rename_i cs t fr hg;split
  ·exact LV_block hu hi hg (by assumption)
  ·rfl
 ·rfl
def SVx (P : Program) (t : TypeId) (a : Addr) (cs : Array Value) (w : World) : Result Unit := (storeS t (.pointer (some a)) (.agg cs)).run P w
def splice (old cs : Array Value) (o : Nat) : Array Value := (old.toList.take o ++ cs.toList ++ old.toList.drop (o + cs.size)).toArray
theorem splice_all {old cs : Array Value} (h : old.size = cs.size) : splice old cs 0 = cs := by
 unfold splice;rw [List.drop_of_length_le (by simp [h])];simp
@[go_sem, simp] theorem Packet.splice_call (x : Packet) (c : Call) : splice x.cells c.cells 3 = Packet.cells { x with call := c } := by simp [splice, Packet.cells, Call.cells]
@[go_sem, simp] theorem Packet.splice_answer (x : Packet) (c : Answer) : splice x.cells c.cells 7 = Packet.cells { x with answer := c } := by simp [splice, Packet.cells, Answer.cells]
@[go_sem, simp] theorem Record.splice_call (x : Record) (c : Call) : splice x.cells c.cells 2 = Record.cells { x with call := c } := by simp [splice, Record.cells, Call.cells]
@[go_sem, simp] theorem Record.splice_answer (x : Record) (c : Answer) : splice x.cells c.cells 6 = Record.cells { x with answer := c } := by simp [splice, Record.cells, Answer.cells]
@[go_sem, simp] theorem Step.splice_call (x : Step) (c : Call) : splice x.cells c.cells 3 = Step.cells { x with call := c } := by simp [splice, Step.cells, Call.cells]
def SVo (P : Program) (ty : TypeId) (n b o : Nat) (cs : Array Value) (w : World) : Option Obj -> Result Unit
 | some (.cells old _ (0, 0)) => if o + n <= old.size then .ok () (w.setRow b (splice old cs o)) else SVx P ty ⟨b, o, none⟩ cs w
 | _ => SVx P ty ⟨b, o, none⟩ cs w
@[go_sem] theorem SVo_cells (P : Program) (ty : TypeId) (n b o : Nat) (cs old : Array Value) (w : World) (t : TypeId) (h : o + n <= old.size) :
 SVo P ty n b o cs w (some (.cells old t (0, 0))) = .ok () (w.setRow b (splice old cs o)) := by simp [SVo, h]
@[go_sem high] theorem SVo_whole (P : Program) (ty : TypeId) (n b : Nat) (cs old : Array Value) (w : World) (t : TypeId) (h : old.size = n) (h' : cs.size = n) :
 SVo P ty n b 0 cs w (some (.cells old t (0, 0))) = .ok () (w.setRow b cs) := by simp [SVo, h, splice_all (h.trans h'.symm)]
theorem SVo_eq {P : Program} {ty : TypeId} {n : Nat} (hi : (P.info? ty).map (·.size) = some n) {cs : Array Value} (hs : cs.size = n) (h1 : ∀ u ∈ cs.toList, u.oneCell' = true) (b o : Nat) (w : World) :
 (storeS ty (.pointer (some ⟨b, o, none⟩)) (.agg cs)).run P w = SVo P ty n b o cs w (w.heap[b]?) := by
 unfold SVo;split
 ·rename_i old t hg;split
  ·rename_i ho;show (storeVar ty ⟨b, o, none⟩ (.agg cs)).run P w = _;rw [storeVar_block (by rw [hi, hs]) h1 hg (by rw [hs]; exact ho)];rfl
  ·rfl
 ·rfl
@[go_sem ↓] theorem heap_alloc_at (w : World) (o : Obj) (b : Nat) (h : b = w.heap.size) : (w.alloc o).heap[b]? = some o := by subst h; exact heap_alloc_new w o
@[go_sem ↓] theorem heap_alloc_past (w : World) (o : Obj) (b : Nat) (h : b < w.heap.size) : (w.alloc o).heap[b]? = w.heap[b]? := Below.heap_alloc w o b h
@[go_sem ↓] theorem heap_drew' (w : World) (b : Nat) : w.drew.heap[b]? = w.heap[b]? := rfl
@[go_sem ↓] theorem heap_drewN' (w : World) (n b : Nat) : (w.drewN n).heap[b]? = w.heap[b]? := rfl
@[go_sem] theorem lt_size_add (w : World) {a : Nat} (k : Nat) (h : a < w.heap.size) : a < w.heap.size + k := Nat.lt_of_lt_of_le h (Nat.le_add_right _ _)
@[go_sem] theorem setRow_alloc_at (w : World) (old cs : Array Value) (t : TypeId) (b : Nat) (h : b = w.heap.size) : (w.alloc (.cells old t)).setRow b cs = w.alloc (.cells cs t) := by
  subst h;unfold World.setRow World.alloc;congr 1
  apply Array.ext_getElem?;intro k;simp only [Array.getElem?_modify, Array.getElem?_push];by_cases hk : k = w.heap.size
  ·subst hk; simp
  ·have hk' : ¬ w.heap.size = k := fun e => hk e.symm;simp [hk, hk']
@[go_sem] theorem setRow_alloc_past (w : World) (o : Obj) (cs : Array Value) (b : Nat) (h : b < w.heap.size) : (w.alloc o).setRow b cs = (w.setRow b cs).alloc o := by
  unfold World.setRow World.alloc;congr 1
  apply Array.ext_getElem?;intro k;simp only [Array.getElem?_modify, Array.getElem?_push, Array.size_modify];by_cases hk : k = w.heap.size
  ·subst hk;simp [Nat.ne_of_lt h]
  ·simp [hk]
@[go_sem] theorem setRow_drew (w : World) (cs : Array Value) (b : Nat) : w.drew.setRow b cs = (w.setRow b cs).drew := rfl
def flat {α : Type} [Lies α] (l : List α) : List Value := l.flatMap fun x => (Lies.cells x).toList
section
variable {α : Type} [Lies α]
theorem flat_append (l r : List α) : flat (l ++ r) = flat l ++ flat r := by simp [flat]
theorem flat_one (x : α) : flat [x] = (Lies.cells x).toList := by simp [flat]
theorem flat_cons (x : α) (l : List α) : flat (x :: l) = (Lies.cells x).toList ++ flat l := by simp [flat]
theorem length_flat (l : List α) : (flat l).length = l.length * Lies.size α := by
 induction l with
 | nil => simp [flat]
 | cons x l ih => rw [flat_cons, List.length_append, ih, List.length_cons, Nat.add_mul, Array.length_toList, Lies.size_eq]; omega
theorem flat_one_cell (l : List α) : ∀ u ∈ flat l, u.oneCell' = true := by
 intro u hu;simp only [flat, List.mem_flatMap] at hu;obtain ⟨x, _, hx⟩ := hu;exact Lies.one x u hx
theorem flat_get (l : List α) (k : Nat) (x : α) (hk : l[k]? = some x) (j : Nat) (v : Value) (hj : (Lies.cells x)[j]? = some v) : (flat l)[k * Lies.size α + j]? = some v := by
 induction l generalizing k with
 | nil => simp at hk
 | cons y l ih =>
   rw [flat_cons];cases k with
   | zero =>
     simp at hk; subst hk;have hlt : j < (Lies.cells y).size := (aG hj).1;rw [Nat.zero_mul, Nat.zero_add, List.getElem?_append_left (by simpa using hlt)];simpa using hj
   | succ k =>
     simp at hk;have hl : (Lies.cells y).toList.length = Lies.size α := by rw [Array.length_toList, Lies.size_eq]
     rw [List.getElem?_append_right (by rw [hl, Nat.add_mul]; omega), hl];rw [show (k + 1) * Lies.size α + j - Lies.size α = k * Lies.size α + j by rw [Nat.add_mul]; omega];exact ih k hk
theorem flat_take (l : List α) (n : Nat) : (flat l).take (n * Lies.size α) = flat (l.take n) := by
 induction l generalizing n with
 | nil => simp [flat]
 | cons y l ih =>
   cases n with
   | zero => simp [flat]
   | succ n =>
     have hl : (Lies.cells y).toList.length = Lies.size α := by rw [Array.length_toList, Lies.size_eq]
     rw [List.take_succ_cons, flat_cons, flat_cons, List.take_append, hl, Nat.add_mul, Nat.one_mul, Nat.add_sub_cancel, ih, List.take_of_length_le (by omega)]
theorem flat_drop (l : List α) (n : Nat) : (flat l).drop (n * Lies.size α) = flat (l.drop n) := by
 induction l generalizing n with
 | nil => simp [flat]
 | cons y l ih =>
   cases n with
   | zero => simp
   | succ n =>
     have hl : (Lies.cells y).toList.length = Lies.size α := by rw [Array.length_toList, Lies.size_eq]
     rw [List.drop_succ_cons, flat_cons, List.drop_append, hl, Nat.add_mul, Nat.one_mul, Nat.add_sub_cancel, ih, List.drop_of_length_le (by omega), List.nil_append]
def Owns (w : World) (e : TypeId) (v : Value) (l : List α) : Prop := w.ownsRow 0 e (Lies.size α) v l.length (flat l)
theorem Owns.nil (w : World) (e : TypeId) : Owns (α := α) w e (.slice none 0 0) [] := World.ownsRow_nil w 0 e _
theorem Owns.form {w : World} {e : TypeId} {v : Value} {l : List α} (h : Owns w e v l) : ∃ A c, v = .slice A l.length c /\ l.length <= c /\ c <= maxLen /\ Reads w w.heap.size A l := by
 rcases h.2 with ⟨rfl, h0⟩ | ⟨g, cap, cur, rfl, _, hg, hn, hc, hs, ht⟩
 ·have hl : l = [] := List.eq_nil_of_length_eq_zero h0;subst hl;exact ⟨none, 0, rfl, Nat.le_refl _, by simp [maxLen], fun k x hk => by simp at hk⟩
 ·refine ⟨some ⟨g, 0, none⟩, cap, rfl, hn, hc, fun k x hk => ⟨⟨g, 0, none⟩, rfl, (aG hg).1, fun j v hv => ?_⟩⟩;have h1 : (((⟨g, 0, none⟩ : Addr).add (k * Lies.size α)).add j) = ⟨g, k * Lies.size α + j, none⟩ := by unfold Addr.add; split <;> split <;> simp_all
  rw [h1, cell_of_row w g _ cur e (0, 0) hg];have h2 := flat_get l k x hk j v hv;rw [<- ht, List.getElem?_take] at h2;split at h2
  ·simpa using h2
  ·cases h2
theorem Owns.lt {w : World} {e : TypeId} {v : Value} {l : List α} (h : Owns w e v l) : ∀ k, v.ownBlock = some k -> k < w.heap.size := fun k hk => (World.ownsRow.lt h k hk).2
theorem Owns.keep {w w' : World} {e : TypeId} {v : Value} {l : List α} (h : Owns w e v l) (hb : ∀ k, v.ownBlock = some k -> w'.heap[k]? = w.heap[k]?) : Owns w' e v l := by
 refine ⟨h.1, ?_⟩;rcases h.2 with hn | ⟨g, cap, cur, rfl, hb0, hg, rest⟩
 ·exact .inl hn
 ·exact .inr ⟨g, cap, cur, rfl, hb0, by rw [hb g rfl]; exact hg, rest⟩
theorem Owns.touch {w w' : World} {S : Nat -> Prop} {e : TypeId} {v : Value} {l : List α} (h : Owns w e v l) (ht : Touch S w w') (hd : ∀ k, v.ownBlock = some k -> ¬ S k) : Owns w' e v l :=
 h.keep fun k hk => ht.block k (h.lt k hk) (hd k hk)
theorem Owns.elem {w : World} {e t : TypeId} {v : Value} {l : List α} (h : Owns w e v l) {g : Nat} {cs : Array Value} {fr : Nat × Nat} (hg : w.heap[g]? = some (.cells cs t fr)) (hne : e ≠ t) : v.ownBlock ≠ some g := by
 rcases h.2 with ⟨rfl, _⟩ | ⟨g', cap, cur, rfl, _, hh, _⟩
 ·simp [Value.ownBlock]
 ·intro he;have : g' = g := by simpa [Value.ownBlock] using he
  subst this;rw [hg] at hh;injection hh with hh;injection hh with _ ht;exact hne ht.symm
structure Holds (w : World) (g : Nat) (T E : TypeId) (v : Value) (l : List α) : Prop where
 cell : w.heap[g]? = some (.cells #[v] T (0, 0))
 own : Owns w E v l
def foot (g : Nat) (v : Value) : Nat -> Prop := fun k => k = g \/ v.ownBlock = some k
theorem Holds.lt {w : World} {g : Nat} {T E : TypeId} {v : Value} {l : List α} (h : Holds w g T E v l) : g < w.heap.size := (aG h.cell).1
theorem Holds.foot_lt {w : World} {g : Nat} {T E : TypeId} {v : Value} {l : List α} (h : Holds w g T E v l) : ∀ k, foot g v k -> k < w.heap.size := fun k hk => by
 rcases hk with rfl | hk
 ·exact h.lt
 ·exact h.own.lt k hk
theorem Holds.touch {w w' : World} {S : Nat -> Prop} {g : Nat} {T E : TypeId} {v : Value} {l : List α} (h : Holds w g T E v l) (ht : Touch S w w') (hd : ∀ k, foot g v k -> ¬ S k) : Holds w' g T E v l :=
 ⟨by rw [ht.block g h.lt (hd g (.inl rfl))]; exact h.cell, h.own.touch ht fun k hk => hd k (.inr hk)⟩
theorem Holds.ext {w w' : World} {g : Nat} {T E : TypeId} {v : Value} {l : List α} (h : Holds w g T E v l) (ht : Ext w w') : Holds w' g T E v l := h.touch ht fun _ _ => id
end
theorem World.grownBy.blk {w w' : World} {row : Option Nat} (hg : w.grownBy w' row) {b : Nat} {o : Obj} (h : w.heap[b]? = some o) (hne : row ≠ some b) : w'.heap[b]? = some o :=
 (hg.block b (aG h).1 (fun e => hne e.symm)).trans h
theorem cell_of {w : World} {b : Nat} {cs : Array Value} {t : TypeId} {fr : Nat × Nat} (h : w.heap[b]? = some (.cells cs t fr)) (o : Nat) : w.cell? ⟨b, o, none⟩ = cs[o]? := cell_of_row w b o cs t fr h
theorem frozen_of {w : World} {b : Nat} {cs : Array Value} {t : TypeId} (h : w.heap[b]? = some (.cells cs t (0, 0))) (o : Nat) : w.frozen? ⟨b, o, none⟩ = false := by simp [World.frozen?, h]
section
variable {α : Type} [Lies α]
theorem Owns.setCell {w : World} {e : TypeId} {v : Value} {l : List α} (h : Owns w e v l) {a : Addr} (ha : v.ownBlock ≠ some a.block) (u : Value) : Owns (w.setCell a u) e v l :=
 h.keep fun k hk => heap_setCell_other w a k u (fun e => ha (by rw [hk, e]))
theorem Holds.stored {w1 : World} {g : Nat} {T E : TypeId} {v0 v : Value} {l : List α} (hg : w1.heap[g]? = some (.cells #[v0] T (0, 0))) (ho : Owns w1 E v l) (hne : E ≠ T) : Holds (w1.setCell ⟨g, 0, none⟩ v) g T E v l :=
 ⟨by rw [heap_setCell_same w1 g 0 #[v0] T v hg]; rfl, ho.setCell (ho.elem hg hne) v⟩
theorem Holds.appended {w wx w1 : World} {g : Nat} {T E : TypeId} {v v' : Value} {l l' : List α} (h : Holds w g T E v l) (hx : Ext w wx) (hne : E ≠ T)
 (hown : Owns w1 E v' l') (hgrow : wx.grownBy w1 v.ownBlock) (hat : v'.ownBlock = v.ownBlock \/ v'.ownBlock = some wx.heap.size) :
 Holds (w1.setCell ⟨g, 0, none⟩ v') g T E v' l' /\ Touch (foot g v) w (w1.setCell ⟨g, 0, none⟩ v') /\ ∀ k, v'.ownBlock = some k -> v.ownBlock = some k \/ w.heap.size <= k := by
 have hg1 : w1.heap[g]? = some (.cells #[v] T (0, 0)) := World.grownBy.blk hgrow ((hx.block g h.lt id).trans h.cell) (h.own.elem h.cell hne);refine ⟨Holds.stored hg1 hown hne, ((hx.mono fun k hk => hk.elim).grown hgrow fun k hk => .inl (.inr hk)).setCell (.inl (.inl rfl)) _, fun k hk => ?_⟩;rcases hat with h1 | h1
 ·exact .inl (by rw [<- h1]; exact hk)
 ·rw [h1] at hk; injection hk with hk; exact .inr (by have := hx.size; omega)
end
theorem results_cell {P : Program} {fn : Func} {p : Tmp} {ty : TypeId} (h : fn.results = #[.cell p ty]) (tmps : Array Value) (w : World) (a : Addr) (v : Value) (hp : tmps.getD p undef = .pointer (some a)) (hl : (loadVar ty a).run P w = .ok v w) :
 (results fn tmps).run P w = .ok v w := by
 have hp' : tmps[p]?.getD undef = .pointer (some a) := by simpa using hp
 simp [results, h, hp', asAddr, hl]
theorem results_cell_tmp {P : Program} {fn : Func} {p t : Tmp} {ty : TypeId} (h : fn.results = #[.cell p ty, .tmp t]) (tmps : Array Value) (w : World) (a : Addr) (v : Value) (hp : tmps.getD p undef = .pointer (some a)) (hl : (loadVar ty a).run P w = .ok v w) :
 (results fn tmps).run P w = .ok (.tuple #[v, tmps.getD t undef]) w := by
 have hp' : tmps[p]?.getD undef = .pointer (some a) := by simpa using hp
 simp [results, h, hp', asAddr, hl]
theorem results_cell_tmp2 {P : Program} {fn : Func} {p t u : Tmp} {ty : TypeId} (h : fn.results = #[.cell p ty, .tmp t, .tmp u]) (tmps : Array Value) (w : World) (a : Addr) (v : Value) (hp : tmps.getD p undef = .pointer (some a)) (hl : (loadVar ty a).run P w = .ok v w) :
 (results fn tmps).run P w = .ok (.tuple #[v, tmps.getD t undef, tmps.getD u undef]) w := by
 have hp' : tmps[p]?.getD undef = .pointer (some a) := by simpa using hp
 simp [results, h, hp', asAddr, hl]
theorem at_block {α : Type} [Lies α] {w : World} {b : Nat} {x : α} {t : TypeId} {fr : Nat × Nat} (h : w.heap[b]? = some (.cells (Lies.cells x) t fr)) : At w ⟨b, 0, none⟩ x := fun j v hv => by
 have hadd : (⟨b, 0, none⟩ : Addr).add j = ⟨b, j, none⟩ := by unfold Addr.add; split <;> simp_all
 rw [hadd, cell_of_row w b j _ t fr h];exact hv
theorem load_block {α : Type} [Lies α] {P : Program} {ty : TypeId} (ht : IsType P ty α) {w : World} {b : Nat} {x : α} {t : TypeId} {fr : Nat × Nat} (h : w.heap[b]? = some (.cells (Lies.cells x) t fr)) : (loadVar ty ⟨b, 0, none⟩).run P w = .ok (.agg (Lies.cells x)) w := LV_at ht (at_block h)
@[go_sem ↓] theorem heap_setCell' (w : World) (g o : Nat) (v : Value) (b : Nat) (h : (b = g) = False) : (w.setCell ⟨g, o, none⟩ v).heap[b]? = w.heap[b]? := heap_setCell_other w _ b v (fun e => by rw [e] at h; simp at h)
@[go_sem ↓] theorem heap_setRow' (w : World) (g : Nat) (cs : Array Value) (b : Nat) (h : (b = g) = False) : (w.setRow g cs).heap[b]? = w.heap[b]? := setRow_other w g b cs (fun e => by rw [e] at h; simp at h)
def objSet (o : Nat) (v : Value) : Obj -> Obj
 | .cells c e fr => .cells (c.setIfInBounds o v) e fr
 | x => x
theorem objPart_map (o n : Nat) (f : Obj -> Obj) (h : ∀ cs t fr, ∃ ds, f (.cells cs t fr) = .cells ds t fr /\ ds.size = cs.size /\ (o + n <= cs.size -> ds.extract o (o + n) = cs.extract o (o + n))) (h' : ∀ x, (∀ cs t fr, x ≠ .cells cs t fr) -> f x = x) (X : Option Obj) : objPart o n (X.map f) = objPart o n X := by
 cases X with
 | none => rfl
 | some x =>
   by_cases hx : ∃ cs t fr, x = .cells cs t fr
   ·obtain ⟨cs, t, fr, rfl⟩ := hx;obtain ⟨ds, e1, e2, e3⟩ := h cs t fr;simp only [Option.map_some, e1, objPart, e2];split
    ·rw [e3 (by assumption)]
    ·rfl
   ·rw [Option.map_some, h' x fun cs t fr e => hx ⟨cs, t, fr, e⟩]
@[go_sem] theorem objPart_set (o n i : Nat) (v : Value) (X : Option Obj) (h : i < o \/ o + n <= i) : objPart o n (X.map (objSet i v)) = objPart o n X := by
  refine objPart_map o n _ (fun cs t fr => ⟨cs.setIfInBounds i v, rfl, by simp, fun _ => ?_⟩) (fun x hx => ?_) X
  ·refine Array.ext_getElem? fun j => ?_;simp only [Array.getElem?_extract, Array.size_setIfInBounds, Array.getElem?_setIfInBounds];split
   ·rw [if_neg (by omega)]
   ·rfl
  ·unfold objSet;split
   ·exact (hx _ _ _ rfl).elim
   ·rfl
def objRow (cs : Array Value) : Obj -> Obj
 | .cells _ e fr => .cells cs e fr
 | x => x
@[go_sem] theorem objSet_cells (o : Nat) (v : Value) (cs : Array Value) (T : TypeId) (fr : Nat × Nat) : objSet o v (.cells cs T fr) = .cells (cs.setIfInBounds o v) T fr := by simp only [objSet]
@[go_sem] theorem objRow_cells (ds cs : Array Value) (T : TypeId) (fr : Nat × Nat) : objRow ds (.cells cs T fr) = .cells ds T fr := by simp only [objRow]
@[go_sem ↓] theorem heap_setCell_map (w : World) (g o : Nat) (v : Value) : (w.setCell ⟨g, o, none⟩ v).heap[g]? = (w.heap[g]?).map (objSet o v) := by
  simp only [World.setCell, Array.getElem?_modify, if_true];cases w.heap[g]? with
  | none => rfl
  | some x => cases x <;> simp [objSet]
@[go_sem ↓] theorem heap_setRow_map (w : World) (g : Nat) (cs : Array Value) : (w.setRow g cs).heap[g]? = (w.heap[g]?).map (objRow cs) := by
  simp only [World.setRow, Array.getElem?_modify, if_true];cases w.heap[g]? with
  | none => rfl
  | some x => cases x <;> simp [objRow]
def isCellsObj : Option Obj -> Bool
 | some (.cells _ _ (0, 0)) => true
 | _ => false
@[go_sem] theorem isCellsObj_cells (cs : Array Value) (T : TypeId) : isCellsObj (some (.cells cs T (0, 0))) = true := by simp only [isCellsObj]
theorem isCellsObj_some {x : Option Obj} (h : isCellsObj x = true) : ∃ cs T, x = some (.cells cs T (0, 0)) := by
 unfold isCellsObj at h;split at h
 ·exact ⟨_, _, rfl⟩
 ·cases h
@[go_sem ↓] theorem cell_setRow_same (w : World) (g o : Nat) (cs : Array Value) (h : isCellsObj (w.heap[g]?) = true) : (w.setRow g cs).cell? ⟨g, o, none⟩ = cs[o]? := by
  obtain ⟨old, T, e⟩ := isCellsObj_some h;exact cell_of (setRow_heap w g old cs T (0, 0) e) o
@[go_sem ↓] theorem frozen_setRow_same (w : World) (g o : Nat) (cs : Array Value) (h : isCellsObj (w.heap[g]?) = true) : (w.setRow g cs).frozen? ⟨g, o, none⟩ = false := by
  obtain ⟨old, T, e⟩ := isCellsObj_some h;exact frozen_of (setRow_heap w g old cs T (0, 0) e) o
@[go_sem ↓] theorem cell_setRow_other (w : World) (g b o : Nat) (cs : Array Value) (h : (b = g) = False) : (w.setRow g cs).cell? ⟨b, o, none⟩ = w.cell? ⟨b, o, none⟩ :=
  World.cell?_of_block (setRow_other w g b cs fun e => by rw [e] at h; simp at h)
@[go_sem ↓] theorem frozen_setRow_other (w : World) (g b o : Nat) (cs : Array Value) (h : (b = g) = False) : (w.setRow g cs).frozen? ⟨b, o, none⟩ = w.frozen? ⟨b, o, none⟩ := by
  have e := setRow_other w g b cs fun e => by rw [e] at h; simp at h
  simp only [World.frozen?, e]
theorem Touch.blk {S : Nat -> Prop} {w w' : World} (ht : Touch S w w') {b : Nat} {o : Obj} (h : w.heap[b]? = some o) (hs : ¬ S b) : w'.heap[b]? = some o := (ht.block b (aG h).1 hs).trans h
section
variable {α : Type} [Lies α]
theorem Holds.setRow {w : World} {g : Nat} {T E : TypeId} {v : Value} {l : List α} (h : Holds w g T E v l) {b : Nat} (hb : ¬ foot g v b) (cs : Array Value) : Holds (w.setRow b cs) g T E v l :=
 h.touch (S := fun k => k = b) ((Touch.refl (fun k => k = b) w).setRow (g := b) (.inl rfl) cs) fun _k hk e => hb (e ▸ hk)
end
theorem Holds.new {α : Type} [Lies α] (w : World) (T E : TypeId) : Holds (α := α) (w.alloc (.cells #[.slice none 0 0] T)) w.heap.size T E (.slice none 0 0) [] := ⟨heap_alloc_new _ _, Owns.nil _ _⟩
theorem foot_new (w : World) : ∀ k, foot w.heap.size (.slice none 0 0) k -> w.heap.size <= k := fun k hk => by rcases hk with rfl | hk <;> simp [Value.ownBlock] at *
abbrev Call.zero : Call := ⟨0, ⟨#[]⟩, ⟨#[]⟩, ⟨#[]⟩⟩
abbrev Answer.zero : Answer := ⟨0, ⟨#[]⟩⟩
abbrev Packet.zero : Packet := ⟨false, 0, 0, ⟨0, ⟨#[]⟩, ⟨#[]⟩, ⟨#[]⟩⟩, ⟨0, ⟨#[]⟩⟩⟩
abbrev Record.zero : Record := ⟨0, 0, ⟨0, ⟨#[]⟩, ⟨#[]⟩, ⟨#[]⟩⟩, ⟨0, ⟨#[]⟩⟩⟩
end Go.Proofs.YtalfbhhldfffkaaGreatDoor
