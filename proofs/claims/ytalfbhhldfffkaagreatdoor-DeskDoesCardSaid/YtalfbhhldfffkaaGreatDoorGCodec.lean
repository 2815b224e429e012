/- Bytes: slices of bytes and strings: append of a string's bytes, conversions. No program is walked here. (And behind it: Codec, Codec2, Codec3, Codec4, Codec5, Codec7, Codec6, CodecUse.) -/
import Derived.Test.YtalfbhhldfffkaaGreatDoorMem
import Derived.Test.YtalfbhhldfffkaaGreatDoorGPlain
import Derived.Lib.AppendStr
import Derived.Laws.IdiomStrings
import Derived.Test.YtalfbhhldfffkaaGreatDoorGCheck
import Derived.Test.YtalfbhhldfffkaaGreatDoorGBasis
import Derived.Deep.QuietTactic
import Derived.BigQuiet
import Derived.Deep.RegionHeld3
set_option maxHeartbeats 8000000
set_option maxRecDepth 100000
namespace Go.Proofs.YtalfbhhldfffkaaGreatDoor
open Go.RowKit
theorem flat_bytes (l : List UInt8) : flat l = l.map fun b => Value.int .u8 b.toNat := by
 induction l with
 | nil => rfl
 | cons b l ih => simp only [List.map_cons, <- ih]; rfl
theorem strCells_flat (s : ByteArray) : Lib.strCells s = flat s.toList := by
 rw [flat_bytes, ByteArray.toList_eq]; rfl
theorem run_append_text {P : Program} {w : World} {e : TypeId} (hE : (P.info? e).map (fun i => (i.zero, i.size, i.bytes)) = some (some (.int .u8 0), 1, 1)) (t u ty : TypeId) (ht : P.underlying t = some (.slice e)) (hu : P.underlying u = some .string)
 {v : Value} {l : List UInt8} (hown : Owns w e v l) (s : ByteArray) (hsz : l.length + s.size <= 140737488355328) :
 ∃ A' c' w', (Builtin.append_ #[t, u] ty #[v, .string s]).run P w = .ok (.slice A' (l.length + s.size) c') w' /\ Owns w' e (.slice A' (l.length + s.size) c') (l ++ s.toList) /\ w.grownBy w' v.ownBlock /\
   ((Value.slice A' (l.length + s.size) c').ownBlock = v.ownBlock \/ (Value.slice A' (l.length + s.size) c').ownBlock = some w.heap.size) := by
 obtain ⟨i, hi, hz, hs, hb⟩ : ∃ i, P.info? e = some i /\ i.zero = some (.int .u8 0) /\ i.size = 1 /\ i.bytes = 1 := by
  cases hq : P.info? e with
  | none => rw [hq] at hE; cases hE
  | some i => rw [hq] at hE; simp at hE; exact ⟨i, rfl, hE⟩
 have hle : l.length + s.size <= maxLen := by unfold maxLen; omega
 obtain ⟨v', w', hr, h2, h3, h4⟩ := Lib.run_append_own_string (P := P) w 0 t u ty e i ht hu hi hz hs hb v l.length (flat l) hown s hle hsz (Nat.zero_le _);rw [strCells_flat, <- flat_append] at h2;have hlen : (l ++ s.toList).length = l.length + s.size := by rw [List.length_append, length_toList']
 have h5 : Owns w' e v' (l ++ s.toList) := by unfold Owns; rw [hlen]; exact h2
 obtain ⟨A', c', rfl, _⟩ := h5.form;rw [hlen] at h5 hr h4;refine ⟨A', c', w', hr, h5, h3, ?_⟩;rcases hown.2 with ⟨rfl, h0⟩ | ⟨g, cap, cur, rfl, _, hg, hnc, hcm, hcs, htk⟩
 ·by_cases hm : s.size = 0
  ·left
   have := h4.2 ⟨rfl, hm⟩;rw [this]
  ·right
   have hr2 := run_append_nil_string (P := P) w t u ty e i (.int .u8 0) ht hu hi hz s (by omega) (by omega) (by rw [hb]; omega);rw [hr] at hr2;injection hr2 with hr2 _;rw [hr2];rfl
 ·by_cases hroom : l.length + s.size <= cap
  ·left
   have hcs' : cur.size = cap := hcs.trans (Nat.mul_one cap);have hr2 := Lib.run_append_room_string (P := P) w t u ty e i ht hu hi hs g l.length cap cur hg s hroom (by omega);rw [hr] at hr2;injection hr2 with hr2 _;rw [hr2];rfl
  ·right
   have hr2 := Lib.run_append_grow_string (P := P) w t u ty e i (.int .u8 0) ht hu hi hz ⟨g, 0, none⟩ l.length cap (flat l) (by rw [hs, length_flat]; rfl) (World.ownsRow.cells hown (g := g) rfl) s (by omega) (by omega) (by rw [hb]; exact growslice_fits (by omega) (by omega));rw [hr] at hr2;injection hr2 with hr2 _;rw [hr2];rfl
theorem run_convert_reads {P : Program} {w : World} {src dst e : TypeId} (hs : P.underlying src = some (.slice e)) (he : P.underlying e = some (.int .u8)) (hd : P.underlying dst = some .string) {B : Nat} {A : Option Addr} {l : List UInt8} (h : Reads w B A l) (c : Nat) :
 (convert src dst (.slice A l.length c)).run P w = .ok (.string (mkStr l)) w := by
 rcases A with _ | ad
 ·have hl : l = [] := by
   cases l with
   | nil => rfl
   | cons x r => obtain ⟨ad, h, _⟩ := h 0 x rfl; cases h
  subst hl;rw [run_convert_bytes_string w src dst e _ _ _ hs he hd];rfl
 ·exact run_convert_bytes_back w src dst e ad c l hs he hd fun j hj => by
   obtain ⟨ad', e1, _, hat⟩ := h j l[j] (List.getElem?_eq_getElem hj);cases e1;have := hat 0 (.int .u8 (l[j].toNat : Int)) rfl;rwa [addr_add_add, show j * Lies.size UInt8 + 0 = j from Nat.mul_one j] at this
def CodePost (w : World) (n : Int) (e : Ending) (w' : World) : Prop := e = .returned (.int .i64 n) /\ Ext w w'
theorem codec_check (w : World) (r : Record) (hs : StrCall r.call) :
 Calls Tryz.prog 172 #[.agg r.cells] w (CodePost w (recCode r)) := by
 by_cases a1 : r.client < 0
 ·skip
  clear hs;go_enter Tryz.func172, Tryz.ntmps172
  go_wp2
  go_ret
  exact ⟨by rw [show recCode r = 9 from by unfold recCode; rw [if_pos (by omega)]]; rfl, (Touch.refl _ _).alloc _⟩
 by_cases a2 : 3 <= r.client
 ·skip
  clear hs;go_enter Tryz.func172, Tryz.ntmps172
  go_wp2
  go_ret
  exact ⟨by rw [show recCode r = 9 from by unfold recCode; rw [if_pos (by omega)]]; rfl, (Touch.refl _ _).alloc _⟩
 by_cases a3 : r.no < 1
 ·skip
  clear hs;go_enter Tryz.func172, Tryz.ntmps172
  go_wp2
  go_ret
  exact ⟨by rw [show recCode r = 9 from by unfold recCode; rw [if_pos (by omega)]]; rfl, (Touch.refl _ _).alloc _⟩
 by_cases a4 : 200 < r.no
 ·skip
  clear hs;go_enter Tryz.func172, Tryz.ntmps172
  go_wp2
  go_ret
  exact ⟨by rw [show recCode r = 9 from by unfold recCode; rw [if_pos (by omega)]]; rfl, (Touch.refl _ _).alloc _⟩
 have h9 : ¬ (r.client < 0 \/ 3 <= r.client \/ r.no < 1 \/ 200 < r.no) := by omega
 have H9 := lh h9;have HS := lh hs;clear h9 hs;cases hk : decide (1 <= r.call.kind /\ r.call.kind <= 4) with
 | false =>
   have HC := lh (show recCode r = 1 from by unfold recCode; rw [if_neg H9.out, if_pos (by simpa using hk)]);go_enter Tryz.func172, Tryz.ntmps172
   go_wp2_with fail
   refine (files_changes _ r.call.kind false hk).mono ?_;rintro e w1 ⟨rfl, rfl⟩;clear hk;go_wp2
   go_ret
   exact ⟨by rw [HC.out]; rfl, (Touch.refl _ _).alloc _⟩
 | true =>
 have HK := lh hk;have hk' : ¬ ¬ (1 <= r.call.kind /\ r.call.kind <= 4) := by simpa using hk
 have HK' := lh hk';clear hk hk';by_cases hc : callCode r.call = 0
 ·by_cases a5 : r.answer.code < 0
  ·have HC := lh (show recCode r = 9 from by unfold recCode; rw [if_neg H9.out, if_neg HK'.out, if_neg (by simpa using hc), if_pos (by omega)]);go_enter Tryz.func172, Tryz.ntmps172
   go_wp2_with fail
   refine (files_changes _ r.call.kind true HK.out).mono ?_;rintro e w1 ⟨rfl, rfl⟩;go_wp2_with fail
   refine (files_check' _ r.call 0 hc HS.out).mono ?_;rintro e w2 ⟨rfl, he⟩;have HE := lh he;have hb := he.blk (b := w.heap.size) (o := .cells r.cells 112 (0, 0)) (heap_alloc_new _ _) id;have hg0 : w2.cell? ⟨w.heap.size, 6, none⟩ = some (.int .i64 r.answer.code) := by rw [cell_of hb 6, Record.get6]
   have hg1 : w2.cell? ⟨w.heap.size, 7, none⟩ = some (.string r.answer.text) := by rw [cell_of hb 7, Record.get7]
   obtain ⟨hlb, hb'⟩ := aG hb;have hc' := lh hc;clear he hc;go_wp2
   go_ret
   exact ⟨by rw [HC.out]; rfl, ((Touch.refl _ _).alloc _).then HE.out fun _ h => h.elim⟩
  by_cases a6 : 99 < r.answer.code
  ·have HC := lh (show recCode r = 9 from by unfold recCode; rw [if_neg H9.out, if_neg HK'.out, if_neg (by simpa using hc), if_pos (by omega)]);go_enter Tryz.func172, Tryz.ntmps172
   go_wp2_with fail
   refine (files_changes _ r.call.kind true HK.out).mono ?_;rintro e w1 ⟨rfl, rfl⟩;go_wp2_with fail
   refine (files_check' _ r.call 0 hc HS.out).mono ?_;rintro e w2 ⟨rfl, he⟩;have HE := lh he;have hb := he.blk (b := w.heap.size) (o := .cells r.cells 112 (0, 0)) (heap_alloc_new _ _) id;have hg0 : w2.cell? ⟨w.heap.size, 6, none⟩ = some (.int .i64 r.answer.code) := by rw [cell_of hb 6, Record.get6]
   have hg1 : w2.cell? ⟨w.heap.size, 7, none⟩ = some (.string r.answer.text) := by rw [cell_of hb 7, Record.get7]
   obtain ⟨hlb, hb'⟩ := aG hb;have hc' := lh hc;clear he hc;go_wp2
   go_ret
   exact ⟨by rw [HC.out]; rfl, ((Touch.refl _ _).alloc _).then HE.out fun _ h => h.elim⟩
  cases ht : r.answer.text.toList.isEmpty with
  | false =>
    have HC := lh (show recCode r = 3 from by unfold recCode; rw [if_neg H9.out, if_neg HK'.out, if_neg (by simpa using hc), if_neg (by omega), if_pos ht]);go_enter Tryz.func172, Tryz.ntmps172
    go_wp2_with fail
    refine (files_changes _ r.call.kind true HK.out).mono ?_;rintro e w1 ⟨rfl, rfl⟩;go_wp2_with fail
    refine (files_check' _ r.call 0 hc HS.out).mono ?_;rintro e w2 ⟨rfl, he⟩;have HE := lh he;have hb := he.blk (b := w.heap.size) (o := .cells r.cells 112 (0, 0)) (heap_alloc_new _ _) id;have hg0 : w2.cell? ⟨w.heap.size, 6, none⟩ = some (.int .i64 r.answer.code) := by rw [cell_of hb 6, Record.get6]
    have hg1 : w2.cell? ⟨w.heap.size, 7, none⟩ = some (.string r.answer.text) := by rw [cell_of hb 7, Record.get7]
    obtain ⟨hlb, hb'⟩ := aG hb;have hc' := lh hc;clear he hc;go_wp2
    go_ret
    exact ⟨by rw [HC.out]; rfl, ((Touch.refl _ _).alloc _).then HE.out fun _ h => h.elim⟩
  | true =>
    have HC := lh (show recCode r = 0 from by unfold recCode; rw [if_neg H9.out, if_neg HK'.out, if_neg (by simpa using hc), if_neg (by omega), if_neg (by simp [ht])]);go_enter Tryz.func172, Tryz.ntmps172
    go_wp2_with fail
    refine (files_changes _ r.call.kind true HK.out).mono ?_;rintro e w1 ⟨rfl, rfl⟩;go_wp2_with fail
    refine (files_check' _ r.call 0 hc HS.out).mono ?_;rintro e w2 ⟨rfl, he⟩;have HE := lh he;have hb := he.blk (b := w.heap.size) (o := .cells r.cells 112 (0, 0)) (heap_alloc_new _ _) id;have hg0 : w2.cell? ⟨w.heap.size, 6, none⟩ = some (.int .i64 r.answer.code) := by rw [cell_of hb 6, Record.get6]
    have hg1 : w2.cell? ⟨w.heap.size, 7, none⟩ = some (.string r.answer.text) := by rw [cell_of hb 7, Record.get7]
    obtain ⟨hlb, hb'⟩ := aG hb;have hc' := lh hc;clear he hc;go_wp2
    go_ret
    exact ⟨by rw [HC.out]; rfl, ((Touch.refl _ _).alloc _).then HE.out fun _ h => h.elim⟩
 ·have HC := lh (show recCode r = callCode r.call from by unfold recCode; rw [if_neg H9.out, if_neg HK'.out, if_pos hc]);have hcb : (callCode r.call != 0) = true := bne_iff_ne.2 hc;generalize hcd : callCode r.call = n at HC hcb;have hc := hcd;clear hcd;go_enter Tryz.func172, Tryz.ntmps172
  go_wp2_with fail
  refine (files_changes _ r.call.kind true HK.out).mono ?_;rintro e w1 ⟨rfl, rfl⟩;go_wp2_with fail
  refine (files_check' _ r.call n hc HS.out).mono ?_;rintro e w2 ⟨rfl, he⟩;have HE := lh he;have hb := he.blk (b := w.heap.size) (o := .cells r.cells 112 (0, 0)) (heap_alloc_new _ _) id;have hg0 : w2.cell? ⟨w.heap.size, 6, none⟩ = some (.int .i64 r.answer.code) := by rw [cell_of hb 6, Record.get6]
  have hg1 : w2.cell? ⟨w.heap.size, 7, none⟩ = some (.string r.answer.text) := by rw [cell_of hb 7, Record.get7]
  obtain ⟨hlb, hb'⟩ := aG hb;have hc' := lh hc;clear he hc;go_wp2_with fail
  refine (files_check' _ r.call n hc'.out HS.out).mono ?_;rintro e w3 ⟨rfl, he3⟩;have HE := lh (Touch.then HE.out he3 fun _ h => h.elim);clear he3;go_wp2
  go_ret
  exact ⟨by rw [HC.out]; rfl, ((Touch.refl _ _).alloc _).then HE.out fun _ h => h.elim⟩
theorem Moved.after {X : Type} {R : Rep X} {w w' w'' : World} {F F' : Nat -> Prop} {x' : X} (ht : Touch F w w') (hf : Fresh w F F') (h : Moved R w' F' x' w'') : Moved R w F x' w'' := by
 obtain ⟨F'', g1, g2, g3⟩ := h;refine ⟨F'', g1, ht.then g2 fun k hk => hf k hk, fun k hk => ?_⟩;rcases g3 k hk with h | h
 ·exact hf k h
 ·exact .inr (Nat.le_trans ht.size h)
theorem wpList_append_text' {P : Program} {ops : Array Oper} {rest : List Oper} {o : Oper} {a : Act} {w : World} {Q : Exit -> Act -> World -> Prop} (hgd : o.guard = none) (s x : Operand) (t u : TypeId)
 (ho : o.op = .call { callee := .builtin .append, args := #[s, x], argTypes := #[t, u] }) {e : TypeId} (hE : (P.info? e).map (fun i => (i.zero, i.size, i.bytes)) = some (some (.int .u8 0), 1, 1)) (ht : P.underlying t = some (.slice e)) (hu : P.underlying u = some .string)
 {v : Value} {l : List UInt8} (hs : a.eval s = v) (hown : Owns w e v l) (str : ByteArray) (N : Nat) (hN : l.length + str.size = N) (hx : a.eval x = .string str)
 (hsz : l.length + str.size <= 140737488355328)
 (h : ∀ A' c' w', Owns w' e (.slice A' N c') (l ++ str.toList) -> w.grownBy w' v.ownBlock -> ((Value.slice A' N c').ownBlock = v.ownBlock \/ (Value.slice A' N c').ownBlock = some w.heap.size) ->
  wpList P ops Q rest (a.put o.dst (.slice A' N c')) w') : wpList P ops Q (o :: rest) a w := by
 subst hN;refine wpList_plain hgd fun K hK => ?_;obtain ⟨A', c', w', hr, h2, h3, h4⟩ := run_append_text (P := P) hE t u o.type ht hu hown str hsz;unfold Oper.wp execOp;simp only [ho, resolve, invoke, builtin, Sem.run_bind, Sem.run_pure, Result.andThen_ok, List.map_toArray, List.map_cons, List.map_nil, hs, hx, hr];exact hK _ _ (h A' c' w' h2 h3 h4)
theorem byteInfo : (Tryz.prog.info? 5).map (fun i => (i.zero, i.size, i.bytes)) = some (some (.int .u8 0), 1, 1) := by kernel_rfl
theorem Holds.grown2 {α : Type} [Lies α] {w wx w1 w2 : World} {g : Nat} {T E : TypeId} {v v1 : Value} {l : List α} (h : Holds w g T E v l) (hx : Ext w wx) (hne : E ≠ T)
 (hg1 : wx.grownBy w1 v.ownBlock) (ha1 : v1.ownBlock = v.ownBlock \/ v1.ownBlock = some wx.heap.size) (hg2 : w1.grownBy w2 v1.ownBlock) : w2.heap[g]? = some (.cells #[v] T (0, 0)) := by
 have hlt := h.lt;have hs1 := hx.size;have hg0 : v.ownBlock ≠ some g := h.own.elem h.cell hne
 have hgv1 : v1.ownBlock ≠ some g := by
  rcases ha1 with e | e
  ·rw [e]; exact hg0
  ·rw [e]; intro e; injection e with e; omega
 exact World.grownBy.blk hg2 (World.grownBy.blk hg1 ((hx.block g hlt id).trans h.cell) hg0) hgv1
theorem Holds.appended2 {α : Type} [Lies α] {w wx w1 w2 : World} {F : Nat -> Prop} {g : Nat} {T E : TypeId} {v v1 v2 : Value} {l l2 : List α} (h : Holds w g T E v l) (hF : ∀ k, F k ↔ foot g v k) (hx : Ext w wx) (hne : E ≠ T)
 (hg1 : wx.grownBy w1 v.ownBlock) (ha1 : v1.ownBlock = v.ownBlock \/ v1.ownBlock = some wx.heap.size) (hg2 : w1.grownBy w2 v1.ownBlock) (ha2 : v2.ownBlock = v1.ownBlock \/ v2.ownBlock = some w1.heap.size) (ho : Owns w2 E v2 l2) :
 Moved (repHolds g T E) w F l2 (w2.setCell ⟨g, 0, none⟩ v2) := by
 have hlt := h.lt;have hs1 := hx.size;have hs2 := hg1.size;have hg0 : v.ownBlock ≠ some g := h.own.elem h.cell hne
 have hgv1 : v1.ownBlock ≠ some g := by
  rcases ha1 with e | e
  ·rw [e]; exact hg0
  ·rw [e]; intro e; injection e with e; omega
 have hgv2 : v2.ownBlock ≠ some g := by
  rcases ha2 with e | e
  ·rw [e]; exact hgv1
  ·rw [e]; intro e; injection e with e; omega
 have hc1 := World.grownBy.blk hg1 ((hx.block g hlt id).trans h.cell) hg0;have hc2 := World.grownBy.blk hg2 hc1 hgv1
 have hnew1 : ∀ k, v1.ownBlock = some k -> F k \/ w.heap.size <= k := fun k hk => by
  rcases ha1 with e | e
  ·exact .inl ((hF k).2 (.inr (by rw [<- e]; exact hk)))
  ·rw [e] at hk; injection hk with hk; exact .inr (by omega)
 have hnew2 : ∀ k, v2.ownBlock = some k -> F k \/ w.heap.size <= k := fun k hk => by
  rcases ha2 with e | e
  ·exact hnew1 k (by rw [<- e]; exact hk)
  ·rw [e] at hk; injection hk with hk; exact .inr (by omega)
 refine ⟨foot g v2, ⟨v2, fun k => Iff.rfl, ⟨by rw [heap_setCell_same w2 g 0 #[v] T v2 hc2]; rfl, ho.setCell hgv2 v2⟩⟩, ?_, fun k hk => ?_⟩
 ·exact ((((hx.mono (S := F) fun k hk => hk.elim).grown hg1 fun k hk => .inl ((hF k).2 (.inr hk)))).grown hg2 hnew1).setCell (.inl ((hF g).2 (.inl rfl))) _
 ·rcases hk with rfl | hk
  ·exact .inl ((hF _).2 (.inl rfl))
  ·exact hnew2 k hk
def strsBytes (L : List ByteArray) : List UInt8 := L.flatMap strBytes
theorem strsBytes_take {L : List ByteArray} {k : Nat} {s : ByteArray} (h : L[k]? = some s) : strsBytes (L.take (k + 1)) = strsBytes (L.take k) ++ toByte (s.size : Int) :: s.toList := by
 unfold strsBytes;rw [List.take_add_one, h];simp [strBytes]
theorem length_strsBytes {L : List ByteArray} (h : ∀ s ∈ L, s.size <= 100) : (strsBytes L).length <= L.length * 101 := by
 induction L with
 | nil => simp [strsBytes]
 | cons s L ih =>
   have h1 := ih fun x hx => h x (List.mem_cons_of_mem _ hx);have h2 := h s List.mem_cons_self;unfold strsBytes at h1 ⊢;rw [List.flatMap_cons, List.length_append, length_strBytes, List.length_cons];omega
def WriteRel (w : World) (F : Nat -> Prop) (g : Nat) (l : List UInt8) (L : List ByteArray) (i : Value) (wr : World) : Prop :=
 ∃ k : Nat, i = .int .i64 k /\ k <= L.length /\ Moved (repHolds g 246 5) w F (l ++ strsBytes (L.take k)) wr
theorem writer_text (w : World) (F : Nat -> Prop) (g : Nat) (l : List UInt8) (b : Nat) (c : Nat) (L : List ByteArray) (h : (repHolds g 246 5).on w F l) (hb : b < w.heap.size) (hbF : ¬ F b) (hr : Reads w w.heap.size (some ⟨b, 0, none⟩) L)
 (hL : ∀ s ∈ L, s.size <= 100) (hl : l.length <= 1000) (hn : L.length <= 10) :
 Calls Tryz.prog 183 #[.pointer (some ⟨g, 0, none⟩), .slice (some ⟨b, 0, none⟩) L.length c] w fun e w' => e = .returned (.tuple #[]) /\ Moved (repHolds g 246 5) w F (l ++ strsBytes L) w' := by
 have H := lh h;have HR := lh hr;have HL := lh hL;have HBF := lh hbF;clear h hr hL hbF;go_enter Tryz.func183, Tryz.ntmps183
 go_wp2
 go_loopw [8] (fun i wr => WriteRel w F g l L i wr) (fun i _ => L.length - (intOf i).toNat)
 case atStart => exact ⟨0, rfl, Nat.zero_le _, by simpa [strsBytes] using Rep.moved H.out (Touch.refl _ _)⟩
 case round =>
  obtain ⟨k, rfl, hk, F1, ⟨v, hF1, hh⟩, ht, hfr⟩ := hrel;by_cases hlt : k < L.length
  ·obtain ⟨s, hs⟩ : ∃ s, L[k]? = some s := ⟨L[k], by simp [hlt]⟩
   obtain ⟨ad, had, hadb, hat⟩ := HR.out k s hs;cases had
   have hat0 : wr.cell? ⟨b, k, none⟩ = some (.string s) := by
    have h1 := hat.of_same (w' := wr) (by rw [show ((⟨b, 0, none⟩ : Addr).add (k * Lies.size ByteArray)).block = b by unfold Addr.add; split <;> rfl]; exact ht.block b hb HBF.out);have := h1 0 (.string s) rfl;rwa [addr_add_add, show k * Lies.size ByteArray + 0 = k from Nat.mul_one k, show (⟨b, 0, none⟩ : Addr).add k = ⟨b, k, none⟩ by unfold Addr.add; split <;> simp_all] at this
   obtain ⟨A0, c0, rfl, hc0, hcm0, _⟩ := hh.own.form;have hg0 := cell_of hh.cell 0;have hss : s.size <= 100 := HL.out s (List.mem_of_getElem? hs)
   have hM : (l ++ strsBytes (L.take k)).length <= 3000 := by
    have h1 := length_strsBytes (L := L.take k) fun x hx => HL.out x (List.take_subset _ _ hx);have : (L.take k).length <= 10 := by simp; omega
    rw [List.length_append]; omega
   have HT := lh (strsBytes_take hs);have HM := lh ht;have HFR := lh hfr;have HF1 := lh hF1;have HH := lh hh;have hlt0 := hh.lt;have hss0 : (0 : Int) <= s.size := by omega
   have hss1 : (s.size : Int) <= 100 := by omega
   have hN : ((l ++ strsBytes (L.take k)).length + 1) + s.size = (l ++ strsBytes (L.take (k + 1))).length := by rw [HT.out]; simp [length_toList']; omega
   have HN := lh hN;have HE := lh (show (l ++ strsBytes (L.take k) ++ [toByte (s.size : Int)]) ++ s.toList = l ++ strsBytes (L.take (k + 1)) by rw [HT.out]; simp);generalize l ++ strsBytes (L.take k) = M at *;clear hs hat ht hfr hF1 hh hss hN;have hb8 : ((toByte (s.size : Int)).toNat : Int) = s.size := toByte_toNat hss0 (by omega);have HB8 := lh hb8;clear hb8
   have hrd : Reads (wr.alloc (.cells #[.int .u8 (s.size : Int)] 5)) (wr.heap.size + 1) (some ⟨wr.heap.size, 0, none⟩) [toByte (s.size : Int)] :=
    reads_block (x := toByte (s.size : Int)) (t := 5) (fr := (0, 0)) (by rw [heap_alloc_new]; show _ = some (Obj.cells #[.int .u8 ((toByte (s.size : Int)).toNat : Int)] _ _); rw [HB8.out]) _ (by omega)
   have HRD := lh hrd;clear hrd
   go_wp2_with (first
    | (at_builtin; refine wpList_append_own' (by rfl) (.tmp 15) (.tmp 19) 246 (by rfl) elemByte Tryz.underlying246 (v := .slice A0 M.length c0) (l := M) (by rfl) ((HH.out.ext ((Touch.refl _ wr).alloc _)).own) [toByte (s.size : Int)] (by rfl) (M.length + 1) (by rfl) (by rfl) HRD.out (by simp; omega) ?_
       intro A1 c1 w1 hown1 hgrow1 hat1;have HO1 := lh hown1;have HG1 := lh hgrow1;have HA1 := lh hat1;clear hown1 hgrow1 hat1)
    | (at_builtin; refine wpList_append_text' (by rfl) (.tmp 20) (.tmp 21) 246 9 (by rfl) byteInfo Tryz.underlying246 Tryz.underlying9 (v := .slice A1 (M.length + 1) c1) (l := M ++ [toByte (s.size : Int)]) (by rfl) HO1.out s (M.length + 1 + s.size) (by simp) (by rfl) (by simp; omega) ?_
       intro A2 c2 w2 hown2 hgrow2 hat2;have hb2 : w2.heap[g]? = some (.cells #[.slice A0 M.length c0] 246 (0, 0)) := HH.out.grown2 ((Touch.refl _ wr).alloc _) (by decide) HG1.out HA1.out hgrow2;have hg2 := cell_of hb2 0;have hf2 := frozen_of hb2 0;have HO2 := lh hown2;have HG2 := lh hgrow2;have HA2 := lh hat2;clear hown2 hgrow2 hat2))
   have hmv := Holds.appended2 HH.out HF1.out ((Touch.refl _ wr).alloc (.cells #[.int .u8 (s.size : Int)] 5)) (by decide) HG1.out HA1.out HG2.out HA2.out HO2.out;rw [HE.out] at hmv;have HMV := lh hmv;clear hmv;go_roundw
   case rel => exact ⟨k + 1, by go_num, by omega, Moved.after HM.out HFR.out HMV.out⟩
   case measure => simp [intOf]; omega
  ·have hk' : k = L.length := by omega
   subst hk';go_wp2
   refine bodyPost_end (results_none rfl _ _ _) rfl ⟨rfl, ?_⟩;have e : L.take L.length = L := List.take_length;rw [e] at hh;exact ⟨F1, ⟨v, hF1, hh⟩, ht, hfr⟩
def NewListC {α : Type} [Lies α] (w : World) (E : TypeId) (l : List α) (n : Int) (e : Ending) (w' : World) : Prop :=
 ∃ A c, e = .returned (.tuple #[.slice A l.length c, .int .i64 n]) /\ Owns w' E (.slice A l.length c) l /\ Ext w w' /\ ∀ k, (Value.slice A l.length c).ownBlock = some k -> w.heap.size <= k
def encBytes (r : Record) : List UInt8 := if recCode r = 0 then recBytes r else []
theorem Owns.set0 {w : World} {e : TypeId} {g n c : Nat} {x : UInt8} {l : List UInt8} (h : Owns w e (.slice (some ⟨g, 0, none⟩) n c) (x :: l)) (y : UInt8) : Owns (w.setCell ⟨g, 0, none⟩ (.int .u8 y.toNat)) e (.slice (some ⟨g, 0, none⟩) n c) (y :: l) := by
 have h1 := h.1;rcases h.2 with ⟨hv, _⟩ | ⟨g', cap, cur, hv, hb, hg, hn, hc, hs, ht⟩
 ·cases hv
 ·injection hv with e1 e2 e3;injection e1 with e1;injection e1 with e1;subst e1;refine ⟨h1, .inr ⟨g, cap, cur.setIfInBounds 0 (.int .u8 y.toNat), by rw [e2, e3]; rfl, hb, heap_setCell_same w g 0 cur e _ hg, hn, hc, by simpa using hs, ?_⟩⟩;rw [flat_bytes] at ht ⊢;obtain ⟨xs⟩ := cur;simp only [List.setIfInBounds_toArray] at ht ⊢;cases xs with
  | nil => simp at ht
  | cons u xs =>
    simp only [List.set_cons_zero];rw [show (x :: l).length * Lies.size UInt8 = l.length + 1 from Nat.mul_one _] at ht;rw [show (y :: l).length * Lies.size UInt8 = l.length + 1 from Nat.mul_one _];rw [List.take_succ_cons, List.map_cons] at ht ⊢;injection ht with _ ht;rw [ht]
theorem Owns.at0 {w : World} {e : TypeId} {g n c : Nat} {x : UInt8} {l : List UInt8} (h : Owns w e (.slice (some ⟨g, 0, none⟩) n c) (x :: l)) : w.cell? ⟨g, 0, none⟩ = some (.int .u8 x.toNat) /\ ∃ cur, w.heap[g]? = some (.cells cur e (0, 0)) := by
 rcases h.2 with ⟨hv, _⟩ | ⟨g', cap, cur, hv, hb, hg, hn, hc, hs, ht⟩
 ·cases hv
 ·injection hv with e1 e2 e3;injection e1 with e1;injection e1 with e1;subst e1;refine ⟨?_, cur, hg⟩;rw [cell_of hg];have := World.ownsRow.cells h (g := g) rfl 0 (.int .u8 x.toNat) (by rw [flat_bytes]; rfl);rwa [show (⟨g, 0, none⟩ : Addr).add 0 = ⟨g, 0, none⟩ from rfl, cell_of hg] at this
def encHead (r : Record) : List UInt8 := [0, toByte r.client, toByte r.no, toByte r.call.kind, toByte r.answer.code]
def encStrs (r : Record) : List ByteArray := [r.call.name, r.call.to_, r.call.text]
theorem enc_body (r : Record) : encHead r ++ strsBytes (encStrs r) = 0 :: recBody r := by simp [encHead, encStrs, strsBytes, recBody]
theorem codec_encode (w : World) (r : Record) (hs : StrCall r.call) :
 Calls Tryz.prog 179 #[.agg r.cells] w (NewListC w 5 (encBytes r) (recCode r)) := by
 have HS := lh hs;clear hs;by_cases h0 : recCode r = 0
 ·have hok := recCode_ok h0;have H0 := lh h0;obtain ⟨c1, c2⟩ := hok.client;obtain ⟨n1, n2⟩ := hok.no;obtain ⟨k1, k2⟩ := hok.kind;obtain ⟨a1, a2⟩ := hok.code;obtain ⟨s1, s2, s3⟩ := recCode_size hok;have HOK := lh hok;clear hok h0;go_enter Tryz.func179, Tryz.ntmps179
  go_wp2_with fail
  refine (codec_check _ r HS.out).mono ?_;rintro e w1 ⟨rfl, he⟩;rw [H0.out];have hb := he.blk (b := w.heap.size) (o := .cells r.cells 112 (0, 0)) (heap_alloc_new _ _) id;have E1 := lh (show Ext w w1 from ((Touch.refl _ _).alloc _).then he fun _ h => h.elim);have hlw : w.heap.size < w1.heap.size := (aG hb).1;have hcc := fun o => cell_of hb o;go_wp2_with fail
  have X4 : Ext w (((w1.alloc (.cells #[.int .u8 0, .int .u8 r.client, .int .u8 r.no, .int .u8 r.call.kind, .int .u8 r.answer.code] 5)).alloc (.cells #[.slice (some ⟨w1.heap.size, 0, none⟩) 5 5] 246)).alloc (.cells #[.string r.call.name, .string r.call.to_, .string r.call.text] 9)) := ((E1.out.alloc _).alloc _).alloc _
  have hz1 : (((w1.alloc (.cells #[.int .u8 0, .int .u8 r.client, .int .u8 r.no, .int .u8 r.call.kind, .int .u8 r.answer.code] 5)).alloc (.cells #[.slice (some ⟨w1.heap.size, 0, none⟩) 5 5] 246)).alloc (.cells #[.string r.call.name, .string r.call.to_, .string r.call.text] 9)).heap[w1.heap.size]? = some (.cells #[.int .u8 0, .int .u8 r.client, .int .u8 r.no, .int .u8 r.call.kind, .int .u8 r.answer.code] 5) := by
   rw [heap_alloc_past _ _ _ (by simp; omega), heap_alloc_past _ _ _ (by simp), heap_alloc_new]
  have hz2 : (((w1.alloc (.cells #[.int .u8 0, .int .u8 r.client, .int .u8 r.no, .int .u8 r.call.kind, .int .u8 r.answer.code] 5)).alloc (.cells #[.slice (some ⟨w1.heap.size, 0, none⟩) 5 5] 246)).alloc (.cells #[.string r.call.name, .string r.call.to_, .string r.call.text] 9)).heap[w1.heap.size + 1]? = some (.cells #[.slice (some ⟨w1.heap.size, 0, none⟩) 5 5] 246) := by
   rw [heap_alloc_past _ _ _ (by simp), heap_alloc_at _ _ _ (by simp)]
  have hz3 : (((w1.alloc (.cells #[.int .u8 0, .int .u8 r.client, .int .u8 r.no, .int .u8 r.call.kind, .int .u8 r.answer.code] 5)).alloc (.cells #[.slice (some ⟨w1.heap.size, 0, none⟩) 5 5] 246)).alloc (.cells #[.string r.call.name, .string r.call.to_, .string r.call.text] 9)).heap[w1.heap.size + 1 + 1]? = some (.cells #[.string r.call.name, .string r.call.to_, .string r.call.text] 9) := by
   rw [heap_alloc_at _ _ _ (by simp)]
  have hwb : w.heap.size <= w1.heap.size := by omega
  generalize ((w1.alloc (.cells #[.int .u8 0, .int .u8 r.client, .int .u8 r.no, .int .u8 r.call.kind, .int .u8 r.answer.code] 5)).alloc (.cells #[.slice (some ⟨w1.heap.size, 0, none⟩) 5 5] 246)).alloc (.cells #[.string r.call.name, .string r.call.to_, .string r.call.text] 9) = w4 at X4 hz1 hz2 hz3 ⊢;generalize w1.heap.size = b0 at hz1 hz2 hz3 hwb ⊢;have X := lh X4;clear X4 he hb hlw hcc
  have hrow : Owns w4 5 (.slice (some ⟨b0, 0, none⟩) 5 5) (encHead r) := by
   refine ⟨by rw [length_flat], .inr ⟨b0, 5, _, rfl, Nat.zero_le _, hz1, Nat.le_refl _, by simp [maxLen], rfl, ?_⟩⟩;rw [flat_bytes];unfold encHead;simp only [List.map_cons, List.map_nil, toByte_toNat c1 (by omega : r.client < 256), toByte_toNat (show 0 <= r.no by omega) (by omega : r.no < 256), toByte_toNat (show 0 <= r.call.kind by omega) (by omega : r.call.kind < 256), toByte_toNat a1 (by omega : r.answer.code < 256)];rfl
  have hhold : Holds w4 (b0 + 1) 246 5 (.slice (some ⟨b0, 0, none⟩) 5 5) (encHead r) := ⟨hz2, hrow⟩
  have hrd : Reads w4 w4.heap.size (some ⟨b0 + 1 + 1, 0, none⟩) (encStrs r) := reads_row hz3 (fun j v hj => by
   unfold encStrs at hj;have e : flat [r.call.name, r.call.to_, r.call.text] = [.string r.call.name, .string r.call.to_, .string r.call.text] := rfl;rw [e] at hj;simpa using hj) (aG hz3).1
  refine (writer_text w4 (foot (b0 + 1) (.slice (some ⟨b0, 0, none⟩) 5 5)) (b0 + 1) (encHead r) (b0 + 1 + 1) 3 (encStrs r) ⟨_, fun _ => Iff.rfl, hhold⟩ (aG hz3).1 (fun hk => by rcases hk with hk | hk <;> simp [Value.ownBlock] at hk <;> omega) hrd
   (fun s hs => by unfold encStrs at hs; simp at hs; rcases hs with rfl | rfl | rfl <;> omega) (by simp [encHead]) (by simp [encStrs])).mono ?_
  rintro e w5 ⟨rfl, F5, ⟨v5, hF5, hh5⟩, ht5, hfr5⟩
  have hfoot : ∀ k, foot (b0 + 1) v5 k -> w.heap.size <= k := fun k hk => by
   rcases hfr5 k ((hF5 k).2 hk) with h | h
   ·rcases h with h | h
    ·omega
    ·simp [Value.ownBlock] at h; omega
   ·have := X.out.size; omega
  have X5 := lh (show Ext w w5 from X.out.then ht5 fun k hk => .inr (by rcases hk with h | h; omega; simp [Value.ownBlock] at h; omega));rw [enc_body] at hh5;clear hz1 hz2 hz3 hrow hhold hrd hF5 ht5 hfr5 X;obtain ⟨A5, n5, rfl, hc5, hm5, _⟩ := hh5.own.form
  obtain ⟨gb, rfl⟩ : ∃ gb, A5 = some ⟨gb, 0, none⟩ := by
   rcases A5 with _ | ad
   ·exact absurd (hh5.own.none_nil) (by simp)
   ·obtain ⟨g, rfl⟩ := hh5.own.some_form; exact ⟨g, rfl⟩
  obtain ⟨hz0, cur, hcur⟩ := hh5.own.at0;have hgg : gb ≠ b0 + 1 := fun e => hh5.own.elem hh5.cell (by decide) (by rw [e]; rfl);have hgn : (b0 + 1 = gb) = False := by simp; omega
  have hgc := cell_of hh5.cell 0;have hfz := frozen_of hcur 0;have hlen : (0 :: recBody r).length = (recBytes r).length := by simp [recBytes]
  have hbd := recBytes_bounds HOK.out;have hbl := lh (show ((recBody r).length : Int) + 1 = ((recBytes r).length : Int) by simp [recBytes]);rw [hlen] at hgc hc5 hh5 hfoot;have HH5 := lh hh5;have HFT := lh hfoot;have hb1 : 1 <= (recBytes r).length := by omega
  have hb2 : (recBytes r).length <= 26 := hbd.2;clear hh5 hlen hcur hfoot hbd hgg;have HRB := lh (show recBytes r = toByte ((recBytes r).length : Int) :: recBody r by rw [<- hbl.out]; rfl);generalize hnn : (recBytes r).length = n at *;have HNN := lh hnn;clear hnn
  have hgs : ∀ v, (w5.setCell ⟨gb, 0, none⟩ v).cell? ⟨b0 + 1, 0, none⟩ = some (.slice (some ⟨gb, 0, none⟩) n n5) := fun v => by
   rw [World.cell?_of_block (heap_setCell_other w5 ⟨gb, 0, none⟩ (b0 + 1) v (by simpa using hgn))];exact hgc
  go_wp2
  go_ret2
  have e : encBytes r = recBytes r := if_pos H0.out;unfold NewListC;rw [e, HNN.out, H0.out];refine ⟨some ⟨gb, 0, none⟩, n5, rfl, ?_, X5.out.setCell (.inr (HFT.out gb (.inr rfl))) _, fun k hk => HFT.out k (.inr hk)⟩;have h1 := Owns.set0 HH5.out.own (toByte (n : Int));rw [toByte_toNat (by omega) (by omega)] at h1;rw [HRB.out];exact h1
 ·have hcb : (recCode r != 0) = true := bne_iff_ne.2 h0;have HC := lh (show encBytes r = [] from if_neg h0);clear h0;generalize hn : recCode r = n at hcb;have HN := lh hn;clear hn;go_enter Tryz.func179, Tryz.ntmps179
  go_wp2_with fail
  refine (codec_check _ r HS.out).mono ?_;rintro e w1 ⟨rfl, he⟩;rw [HN.out];go_wp2
  go_ret2
  rw [HC.out];exact ⟨none, 0, rfl, Owns.nil _ _, ((Touch.refl _ _).alloc _).then he fun _ h => h.elim, fun k hk => by simp [Value.ownBlock] at hk⟩
theorem conv_bytes {P : Program} {src dst e : TypeId} (hs : P.underlying src = some .string) (hd : P.underlying dst = some (.slice e)) (he : P.underlying e = some (.int .u8)) (w : World) (s : ByteArray) :
 ∃ c w', (convert src dst (.string s)).run P w = .ok (.slice (some ⟨w.heap.size, 0, none⟩) s.size c) w' /\ Ext w w' /\ Reads w' w'.heap.size (some ⟨w.heap.size, 0, none⟩) s.toList /\ w'.heap.size = w.heap.size + 1 := by
 refine ⟨_, _, run_bytes_of_string w src dst e s hs hd he, ((Touch.refl _ _).drew).alloc _, ?_, by simp⟩;refine reads_row (heap_alloc_new _ _) (fun j v hj => ?_) (by simp);rw [flat_bytes, ByteArray.toList_eq] at hj;unfold bytesRow;have hj' : j < s.data.toList.length := by simpa using (lG hj).1
 rw [Array.getElem?_append_left (by simpa using hj')];rw [<- hj];simp [Array.getElem?_map]
theorem own_one {α : Type} [Lies α] {w : World} {b : Nat} {E : TypeId} {x : α} (h : w.heap[b]? = some (.cells (Lies.cells x) E (0, 0))) : Owns w E (.slice (some ⟨b, 0, none⟩) 1 1) [x] :=
 ⟨length_flat _, .inr ⟨b, 1, _, rfl, Nat.zero_le _, h, Nat.le_refl _, by simp [maxLen], by rw [Lies.size_eq, Nat.one_mul], by rw [flat_one, List.take_of_length_le]; simp [Lies.size_eq]⟩⟩
def bytesHead (r : Record) : List UInt8 := [toByte r.client, toByte r.no, toByte r.call.kind, toByte r.answer.code]
theorem bytes_body (r : Record) : bytesHead r ++ strsBytes (encStrs r) = recBody r := by simp [bytesHead, encStrs, strsBytes, recBody]
structure BytesAt (w wr : World) (bs : Nat) (r : Record) (k : Nat) (v : Value) : Prop where
 own : Owns wr 5 v (bytesHead r ++ strsBytes ((encStrs r).take k))
 new : ∀ j, v.ownBlock = some j -> w.heap.size <= j /\ j ≠ bs
 ext : Ext w wr
 strs : wr.heap[bs]? = some (.cells #[.string r.call.name, .string r.call.to_, .string r.call.text] 9)
def BytesRel (w wr : World) (bs : Nat) (r : Record) (v i : Value) : Prop := ∃ k : Nat, i = .int .i64 k /\ k <= 3 /\ BytesAt w wr bs r k v
theorem encStrs_get {r : Record} {k : Nat} (hk : k < 3) : ∃ s, (encStrs r)[k]? = some s /\ (#[Value.string r.call.name, .string r.call.to_, .string r.call.text])[k]? = some (.string s) := by
 obtain rfl | rfl | rfl : k = 0 \/ k = 1 \/ k = 2 := by omega
 ·exact ⟨_, rfl, rfl⟩
 ·exact ⟨_, rfl, rfl⟩
 ·exact ⟨_, rfl, rfl⟩
theorem ref_bytesOf (w : World) (r : Record) (hok : RecOk r) :
 Calls Tryz.prog 146 #[.agg r.cells] w (NewList w 5 (recBytes r)) := by
 obtain ⟨c1, c2⟩ := hok.client;obtain ⟨n1, n2⟩ := hok.no;obtain ⟨k1, k2⟩ := hok.kind;obtain ⟨a1, a2⟩ := hok.code;obtain ⟨s1, s2, s3⟩ := recCode_size hok;have HOK := lh hok;have HSZ := lh (show ∀ s ∈ encStrs r, s.size <= 100 from fun s hs => by unfold encStrs at hs; simp at hs; rcases hs with rfl | rfl | rfl <;> omega);clear hok;go_enter Tryz.func146, Tryz.ntmps146
 go_wp2
 have hz1 : (((w.alloc (.cells r.cells 112)).alloc (.cells #[.int .u8 r.client, .int .u8 r.no, .int .u8 r.call.kind, .int .u8 r.answer.code] 5)).alloc (.cells #[.string r.call.name, .string r.call.to_, .string r.call.text] 9)).heap[w.heap.size + 1]? = some (.cells #[.int .u8 r.client, .int .u8 r.no, .int .u8 r.call.kind, .int .u8 r.answer.code] 5) := by
  rw [heap_alloc_past _ _ _ (by simp), heap_alloc_at _ _ _ (by simp)]
 have hz3 : (((w.alloc (.cells r.cells 112)).alloc (.cells #[.int .u8 r.client, .int .u8 r.no, .int .u8 r.call.kind, .int .u8 r.answer.code] 5)).alloc (.cells #[.string r.call.name, .string r.call.to_, .string r.call.text] 9)).heap[w.heap.size + 1 + 1]? = some (.cells #[.string r.call.name, .string r.call.to_, .string r.call.text] 9) := by
  rw [heap_alloc_at _ _ _ (by simp)]
 have hrow : Owns (((w.alloc (.cells r.cells 112)).alloc (.cells #[.int .u8 r.client, .int .u8 r.no, .int .u8 r.call.kind, .int .u8 r.answer.code] 5)).alloc (.cells #[.string r.call.name, .string r.call.to_, .string r.call.text] 9)) 5 (.slice (some ⟨w.heap.size + 1, 0, none⟩) 4 4) (bytesHead r) := by
  refine ⟨by rw [length_flat], .inr ⟨w.heap.size + 1, 4, _, rfl, Nat.zero_le _, hz1, Nat.le_refl _, by simp [maxLen], rfl, ?_⟩⟩;rw [flat_bytes];unfold bytesHead;simp only [List.map_cons, List.map_nil, toByte_toNat c1 (by omega : r.client < 256), toByte_toNat (show 0 <= r.no by omega) (by omega : r.no < 256), toByte_toNat (show 0 <= r.call.kind by omega) (by omega : r.call.kind < 256), toByte_toNat a1 (by omega : r.answer.code < 256)];rfl
 have B0 := lh (show BytesAt w (((w.alloc (.cells r.cells 112)).alloc (.cells #[.int .u8 r.client, .int .u8 r.no, .int .u8 r.call.kind, .int .u8 r.answer.code] 5)).alloc (.cells #[.string r.call.name, .string r.call.to_, .string r.call.text] 9)) (w.heap.size + 1 + 1) r 0 (.slice (some ⟨w.heap.size + 1, 0, none⟩) 4 4) from
  ⟨by simpa [strsBytes] using hrow, fun j hj => by simp [Value.ownBlock] at hj; omega, (((Touch.refl _ w).alloc _).alloc _).alloc _, hz3⟩)
 clear hz1 hz3 hrow;generalize ((w.alloc (.cells r.cells 112)).alloc (.cells #[.int .u8 r.client, .int .u8 r.no, .int .u8 r.call.kind, .int .u8 r.answer.code] 5)).alloc (.cells #[.string r.call.name, .string r.call.to_, .string r.call.text] 9) = w1 at B0 ⊢;have hlw : w.heap.size < w.heap.size + 1 + 1 := by omega
 generalize w.heap.size + 1 + 1 = bs at B0 hlw ⊢;go_loopw [3, 5] (fun v i wr => BytesRel w wr bs r v i) (fun _ i _ => 3 - (intOf i).toNat)
 case atStart => exact ⟨0, rfl, by omega, B0.out⟩
 case round =>
  obtain ⟨k, rfl, hk, B⟩ := hrel;clear B0
  have hM : (bytesHead r ++ strsBytes ((encStrs r).take k)).length <= 3000 := by
   have h1 := length_strsBytes (L := (encStrs r).take k) fun x hx => HSZ.out x (List.take_subset _ _ hx);have : ((encStrs r).take k).length <= 3 := by simp; omega
   rw [List.length_append]; simp only [bytesHead, List.length_cons, List.length_nil]; omega
  obtain ⟨hbo, hbn, hbe, hbs⟩ := B;obtain ⟨A0, c0, rfl, hc0, hcm0, hrd0⟩ := hbo.form;have HOW := lh hbo;have HNW := lh hbn;have HEX := lh hbe;have HST := lh hbs;by_cases hlt : k < 3
  ·have hki : (k : Int) < 3 := by omega
   obtain ⟨s, hs, hs'⟩ := encStrs_get (r := r) hlt;have hss : s.size <= 100 := HSZ.out s (List.mem_of_getElem? hs);have hat0 : wr.cell? ⟨bs, k, none⟩ = some (.string s) := by rw [cell_of hbs]; exact hs'
   have HT := lh (strsBytes_take hs);have hss0 : (0 : Int) <= s.size := by omega
   have hss1 : (s.size : Int) <= 100 := by omega
   have hN : (bytesHead r ++ strsBytes ((encStrs r).take k)).length + 1 + s.size = (bytesHead r ++ strsBytes ((encStrs r).take (k + 1))).length := by rw [HT.out]; simp [length_toList']; omega
   have HN := lh hN;have HE := lh (show (bytesHead r ++ strsBytes ((encStrs r).take k) ++ [toByte (s.size : Int)]) ++ s.toList = bytesHead r ++ strsBytes ((encStrs r).take (k + 1)) by rw [HT.out]; simp);have hb8 : ((toByte (s.size : Int)).toNat : Int) = s.size := toByte_toNat hss0 (by omega);have HB8 := lh hb8
   have hrd : Reads (wr.alloc (.cells #[.int .u8 (s.size : Int)] 5)) (wr.heap.size + 1) (some ⟨wr.heap.size, 0, none⟩) [toByte (s.size : Int)] :=
    reads_block (x := toByte (s.size : Int)) (t := 5) (fr := (0, 0)) (by rw [heap_alloc_new]; show _ = some (Obj.cells #[.int .u8 ((toByte (s.size : Int)).toNat : Int)] _ _); rw [HB8.out]) _ (by omega)
   have HRD := lh hrd;have HS' := lh hs';have hsl := length_toList' s;have HSL := lh hsl;clear hbo hbn hbe hbs hs hs' hN hb8 hrd hrd0 hcm0 hsl;generalize bytesHead r ++ strsBytes ((encStrs r).take k) = M at *
   go_wp2_with (first
    | (at_builtin; refine wpList_append_own' (by rfl) (.tmp 35) (.tmp 42) 40 (by rfl) elemByte Tryz.underlying40 (v := .slice A0 M.length c0) (l := M) (by rfl) (HOW.out.ext ((Touch.refl _ wr).alloc _)) [toByte (s.size : Int)] (by rfl) (M.length + 1) (by rfl) (by rfl) HRD.out (by simp; omega) ?_
       intro A1 c1 w1 hown1 hgrow1 hat1;have hb1 : w1.heap[bs]? = some (.cells #[.string r.call.name, .string r.call.to_, .string r.call.text] 9) := World.grownBy.blk hgrow1 ((Touch.alloc (Touch.refl (fun _ => False) wr) (.cells #[.int .u8 (s.size : Int)] 5)).blk HST.out id) (fun e => (HNW.out bs e).2 rfl);have hcc1 : w1.cell? ⟨bs, k, none⟩ = some (.string s) := by rw [cell_of hb1]; exact HS'.out
       obtain ⟨c2, w2, hcv, hx2, hrd2, hz2⟩ := conv_bytes (P := Tryz.prog) (e := 5) Tryz.underlying9 Tryz.underlying40 Tryz.underlying5 w1 s;have HX2 := lh hx2;have HR2 := lh hrd2;have HZ2 := lh hz2;have HO1 := lh hown1;have HG1 := lh hgrow1;have HA1 := lh hat1;have HB1 := lh hb1;clear hown1 hgrow1 hat1 hx2 hrd2 hz2 hb1)
    | (at_builtin; refine wpList_append_own' (by rfl) (.tmp 44) (.tmp 49) 40 (by rfl) elemByte Tryz.underlying40 (v := .slice A1 (M.length + 1) c1) (l := M ++ [toByte (s.size : Int)]) (by rfl) (HO1.out.ext HX2.out) s.toList (by rw [HSL.out]) (M.length + 1 + s.size) (by simp) (by rfl) HR2.out (by simp [HSL.out]; omega) ?_
       intro A2 c3 w3 hown2 hgrow2 hat2;have HO2 := lh hown2;have HG2 := lh hgrow2;have HA2 := lh hat2;clear hown2 hgrow2 hat2))
   have hx1 : Ext w (wr.alloc (.cells #[.int .u8 (s.size : Int)] 5)) := HEX.out.alloc _;have hbslt : bs < wr.heap.size := (aG HST.out).1;have hsz1 := HG1.out.size;have hsz2 := HX2.out.size;have hwr := HEX.out.size
   have hn1 : ∀ j, (Value.slice A1 (M.length + 1) c1).ownBlock = some j -> w.heap.size <= j /\ j ≠ bs := fun j hj => by
    rcases HA1.out with e | e
    ·exact HNW.out j (by rw [<- e]; exact hj)
    ·rw [e] at hj; injection hj with hj; simp at hj hsz1; omega
   have hn2 : ∀ j, (Value.slice A2 (M.length + 1 + s.size) c3).ownBlock = some j -> w.heap.size <= j /\ j ≠ bs := fun j hj => by
    rcases HA2.out with e | e
    ·exact hn1 j (by rw [<- e]; exact hj)
    ·rw [e] at hj; injection hj with hj; simp at hsz1; omega
   have hx3 : Ext w w3 := ((hx1.grown HG1.out (fun j hj => .inr (HNW.out j hj).1)).then HX2.out fun _ h => h.elim).grown HG2.out (fun j hj => .inr (hn1 j hj).1);have hs3 := World.grownBy.blk HG2.out (HX2.out.blk HB1.out id) (fun e => (hn1 bs e).2 rfl);have hown3 : Owns w3 5 (.slice A2 (M.length + 1 + s.size) c3) (bytesHead r ++ strsBytes ((encStrs r).take (k + 1))) := by rw [<- HE.out]; exact HO2.out
   have HFIN := lh (show BytesAt w w3 bs r (k + 1) (.slice A2 (M.length + 1 + s.size) c3) from ⟨hown3, hn2, hx3, hs3⟩);clear hx1 hbslt hsz1 hsz2 hwr hn1 hn2 hx3 hs3 hown3;go_roundw
   case rel => exact ⟨k + 1, by go_num, by omega, HFIN.out⟩
   case measure => simp [intOf]; omega
  ·have hk3 : k = 3 := by omega
   subst hk3;have e : (encStrs r).take 3 = encStrs r := by simp [encStrs]
   rw [e, bytes_body] at hbo hM hc0 HOW HNW ⊢;have hbd := recBytes_bounds HOK.out;have hl1 : (recBody r).length + 1 = (recBytes r).length := by simp [recBytes]
   have hL := lh hl1;have hi1 : (recBody r).length <= 25 := by omega
   have hb8 : ((toByte (((recBody r).length : Int) + 1)).toNat : Int) = ((recBody r).length : Int) + 1 := toByte_toNat (by omega) (by omega)
   have hov : Owns (wr.alloc (.cells #[.int .u8 (((recBody r).length : Int) + 1)] 5)) 5 (.slice (some ⟨wr.heap.size, 0, none⟩) 1 1) [toByte (((recBody r).length : Int) + 1)] :=
    own_one (x := toByte (((recBody r).length : Int) + 1)) (by rw [heap_alloc_new]; show _ = some (Obj.cells #[.int .u8 ((toByte (((recBody r).length : Int) + 1)).toNat : Int)] _ _); rw [hb8])
   have HOV := lh hov;have HRB := lh ((Owns.ext hbo (Touch.alloc (Touch.refl (fun _ => False) wr) (.cells #[.int .u8 (((recBody r).length : Int) + 1)] 5))).form);have HRD := lh (Owns.reads (Owns.ext hbo (Touch.alloc (Touch.refl (fun _ => False) wr) (.cells #[.int .u8 (((recBody r).length : Int) + 1)] 5))));clear hbo hbn hbe hbs hrd0 hcm0 HST e hb8 hov hbd hl1
   go_wp2_with (at_builtin; refine wpList_append_own' (by rfl) (.tmp 55) (.tmp 56) 40 (by rfl) elemByte Tryz.underlying40 (v := .slice (some ⟨wr.heap.size, 0, none⟩) 1 1) (l := [toByte (((recBody r).length : Int) + 1)]) (by rfl) HOV.out (recBody r) (by rfl) (1 + (recBody r).length) (by rfl) (by rfl) HRD.out (by simp; omega) ?_
                intro A1 c1 w1 hown1 hgrow1 hat1)
   go_ret
   have e2 : 1 + (recBody r).length = (recBytes r).length := by have := hL.out; omega
   rw [e2] at hown1 hat1;refine ⟨A1, c1, by rw [e2]; rfl, ?_, ?_, fun k hk => ?_⟩
   ·exact hown1
   ·exact (HEX.out.alloc _).grown hgrow1 fun k hk => by simp [Value.ownBlock] at hk; have := HEX.out.size; exact .inr (by omega)
   ·have := HEX.out.size;rcases hat1 with e | e
    ·rw [e] at hk; simp [Value.ownBlock] at hk; omega
    ·rw [e] at hk; injection hk with hk; simp at hk; omega
end Go.Proofs.YtalfbhhldfffkaaGreatDoor
namespace Go.Proofs.YtalfbhhldfffkaaGreatDoor
open Go.RowKit BigFrame
def cutA (a : Option Addr) (m l s : Nat) : Option Addr := if m = l then a else a.map (·.add (l * s))
theorem sliced_cut (a : Option Addr) (l h m s : Nat) : sliced a l h m s = .slice (cutA a m l s) (h - l) (m - l) := rfl
attribute [local go_sem ↓] sliced_cut
theorem Reads.cutA {α : Type} [Lies α] {w : World} {B : Nat} {a : Option Addr} {l : List α} (h : Reads w B a l) {m : Nat} (hm : l.length <= m) (j : Nat) : Reads w B (cutA a m j (Lies.size α)) (l.drop j) := by
 rcases a with _ | ad
 ·have hl : l = [] := by
   cases l with
   | nil => rfl
   | cons x r => obtain ⟨ad, h, _⟩ := h 0 x rfl; cases h
  subst hl;rw [List.drop_nil];exact Reads.nil _ _ _
 ·refine h.cut j m hm ?_;unfold YtalfbhhldfffkaaGreatDoor.cutA;split <;> rfl
structure BytesIn (B : Nat) (w : World) (A : Option Addr) (n c : Nat) (l : List UInt8) : Prop where
 len : n = l.length
 cap : l.length <= c
 max : c <= maxLen
 reads : Reads w B A l
 below : B <= w.heap.size
theorem BytesIn.ext {B : Nat} {w w' : World} {A : Option Addr} {n c : Nat} {l : List UInt8} (h : BytesIn B w A n c l) (hx : Ext w w') : BytesIn B w' A n c l :=
 ⟨h.len, h.cap, h.max, h.reads.below fun k hk => hx.block k (Nat.lt_of_lt_of_le hk h.below) id, Nat.le_trans h.below hx.size⟩
def TextPost (B : Nat) (w : World) (_A : Option Addr) (_c : Nat) (l : List UInt8) (e : Ending) (w' : World) : Prop :=
 (parseStr l = none /\ e = .returned (.tuple #[.string ⟨#[]⟩, .slice none 0 0, .bool false]) /\ Ext w w') \/
 (∃ s rest, parseStr l = some (s, rest) /\ ∃ A' c', e = .returned (.tuple #[.string s, .slice A' rest.length c', .bool true]) /\ BytesIn B w' A' rest.length c' rest /\ Ext w w')
theorem codec_text (B : Nat) (w : World) (A : Option Addr) (n c : Nat) (l : List UInt8) (h : BytesIn B w A n c l) (hl : l.length <= 10000) :
 Calls Tryz.prog 171 #[.slice A n c] w (TextPost B w A c l) := by
 obtain ⟨rfl, hcap, hmax, hrd, hbel⟩ := h;have hm := hmax;unfold maxLen at hm;cases l with
 | nil =>
   clear hrd;go_enter Tryz.func171, Tryz.ntmps171
   go_wp2
   go_ret3
   exact .inl ⟨by rfl, rfl, Touch.refl _ _⟩
 | cons x l =>
   obtain ⟨ad, rfl, _, hat⟩ := hrd 0 x rfl;have hc0 : w.cell? ad = some (.int .u8 (x.toNat : Int)) := hat 0 _ rfl;have hx1 : (0 : Int) <= x.toNat := by omega
   have hx2 : (x.toNat : Int) <= 255 := by have := x.toNat_lt; omega
   have HR := lh hrd;have hl1 : (x :: l).length = l.length + 1 := rfl;have hl2 : l.length <= 10000 := by simp at hl; omega
   have hcap' : l.length + 1 <= c := hcap;rw [hl1];clear hrd hat hl hcap hl1;have hz : ((l.length : Int) + 1 == 0) = false := bF (by omega);by_cases hlt : l.length < x.toNat
   ·have hd : decide ((l.length : Int) + 1 < 1 + (x.toNat : Int)) = true := decide_eq_true (by omega);have HP := lh (show parseStr (x :: l) = none from if_pos hlt);clear hlt;go_enter Tryz.func171, Tryz.ntmps171
    go_wp2
    go_ret3
    exact .inl ⟨HP.out, rfl, Touch.refl _ _⟩
   ·have hd : decide ((l.length : Int) + 1 < 1 + (x.toNat : Int)) = false := decide_eq_false (by omega);have HP := lh (show parseStr (x :: l) = some (mkStr (l.take x.toNat), l.drop x.toNat) from if_neg hlt);have hn1 : (x.toNat : Int) <= l.length := by omega
    have hn2 : (1 : Int) + x.toNat <= c := by omega
    have hn3 : (1 : Int) <= c := by omega
    have hcv : ∀ n, (convert 40 9 (.slice (cutA (some ad) c 1 1) x.toNat (c - 1))).run Tryz.prog (w.drewN n) = .ok (.string (mkStr (l.take x.toNat))) (w.drewN n) := fun n => by
     have h1 := ((HR.out.cutA (m := c) (by simp; omega) 1).take x.toNat).below (w' := w.drewN n) (fun _ _ => rfl);rw [show (x :: l).drop 1 = l from rfl] at h1;have h2 := run_convert_reads (P := Tryz.prog) Tryz.underlying40 Tryz.underlying5 Tryz.underlying9 h1 (c - 1);rwa [show (l.take x.toNat).length = x.toNat by rw [List.length_take]; omega] at h2
    have hcut : l.length + 1 - (1 + x.toNat) = (l.drop x.toNat).length := by rw [List.length_drop]; omega
    have HCUT := lh hcut;have hle := hlt;clear hlt hcut;go_enter Tryz.func171, Tryz.ntmps171
    go_wp2
    go_quiet (fail)
    go_wp2
    go_ret3
    refine .inr ⟨mkStr (l.take x.toNat), l.drop x.toNat, HP.out, cutA (some ad) c (1 + x.toNat) 1, c - (1 + x.toNat), ?_, ⟨rfl, by rw [List.length_drop]; omega, by unfold maxLen; omega, ?_, hbel⟩, (Touch.refl _ _).drewN _⟩
    ·rw [<- HCUT.out]; rfl
    ·have h1 := (HR.out.cutA (m := c) (by simp; omega) (1 + x.toNat)).below (w' := w.drewN nq) (fun _ _ => rfl);rw [show (x :: l).drop (1 + x.toNat) = l.drop x.toNat by rw [Nat.add_comm]; rfl] at h1;exact h1
end Go.Proofs.YtalfbhhldfffkaaGreatDoor
namespace Go.Proofs.YtalfbhhldfffkaaGreatDoor
open Go.RowKit
attribute [local go_sem ↓] sliced_cut
def DecPost (w : World) (l : List UInt8) (e : Ending) (w' : World) : Prop :=
 e = .returned (.tuple #[.agg (decode l).1.cells, .int .i64 (decode l).2.1, .int .i64 (decode l).2.2]) /\ Ext w w'
def DecSt (b : List UInt8) : Nat -> ByteArray × ByteArray × ByteArray -> List UInt8 -> Prop
 | 0, s, r => s = (noText, noText, noText) /\ r = b
 | 1, s, r => ∃ x, parseStr b = some (x, r) /\ s = (x, noText, noText)
 | 2, s, r => ∃ x y r1, parseStr b = some (x, r1) /\ parseStr r1 = some (y, r) /\ s = (x, y, noText)
 | _, s, r => ∃ x y z r1 r2, parseStr b = some (x, r1) /\ parseStr r1 = some (y, r2) /\ parseStr r2 = some (z, r) /\ s = (x, y, z)
theorem decSt_end {b : List UInt8} {s : ByteArray × ByteArray × ByteArray} {r : List UInt8} (h : DecSt b 3 s r) : parse3 b = if r = [] then some s else none := by
 obtain ⟨x, y, z, r1, r2, h1, h2, h3, rfl⟩ := h;unfold parse3;rw [h1]; simp only;rw [h2]; simp only;rw [h3]
theorem decSt_none {b : List UInt8} {k : Nat} {s : ByteArray × ByteArray × ByteArray} {r : List UInt8} (h : DecSt b k s r) (hk : k < 3) (hn : parseStr r = none) : parse3 b = none := by
 obtain rfl | rfl | rfl : k = 0 \/ k = 1 \/ k = 2 := by omega
 ·obtain ⟨_, rfl⟩ := h;unfold parse3; rw [hn]
 ·obtain ⟨x, h1, _⟩ := h;unfold parse3; rw [h1]; simp only; rw [hn]
 ·obtain ⟨x, y, r1, h1, h2, _⟩ := h;unfold parse3; rw [h1]; simp only; rw [h2]; simp only; rw [hn]
def setStr (k : Nat) (s : ByteArray × ByteArray × ByteArray) (x : ByteArray) : ByteArray × ByteArray × ByteArray :=
 match k with | 0 => (x, s.2.1, s.2.2) | 1 => (s.1, x, s.2.2) | _ => (s.1, s.2.1, x)
theorem decSt_next {b : List UInt8} {k : Nat} {s : ByteArray × ByteArray × ByteArray} {r r' : List UInt8} {x : ByteArray} (h : DecSt b k s r) (hk : k < 3) (hn : parseStr r = some (x, r')) : DecSt b (k + 1) (setStr k s x) r' := by
 obtain rfl | rfl | rfl : k = 0 \/ k = 1 \/ k = 2 := by omega
 ·obtain ⟨rfl, rfl⟩ := h;exact ⟨x, hn, rfl⟩
 ·obtain ⟨y, h1, rfl⟩ := h;exact ⟨y, x, r, h1, hn, rfl⟩
 ·obtain ⟨y, z, r1, h1, h2, rfl⟩ := h;exact ⟨y, z, x, r1, r, h1, h2, hn, rfl⟩
theorem recOf_set (b : List UInt8) (s : ByteArray × ByteArray × ByteArray) (k : Nat) (hk : k < 3) (x : ByteArray) : (recOf b s).cells.setIfInBounds (3 + k) (.string x) = (recOf b (setStr k s x)).cells := by
 obtain rfl | rfl | rfl : k = 0 \/ k = 1 \/ k = 2 := by omega
 all_goals rfl
theorem ret_rec {P : Program} {fn : Func} {p t u : Tmp} {ty : TypeId} (h : fn.results = #[.cell p ty, .tmp t, .tmp u]) (ht : IsType P ty Record) {R : Ending -> World -> Prop} {a : Act} {w : World} (b : Nat) (r : Record) {T : TypeId} {fr : Nat × Nat} (hp : a.tmps.getD p undef = .pointer (some ⟨b, 0, none⟩)) (hb : w.heap[b]? = some (.cells r.cells T fr)) (hd : a.defers = [])
 (hR : R (.returned (.tuple #[.agg r.cells, a.tmps.getD t undef, a.tmps.getD u undef])) w) : bodyPost P fn R (.ret) a w := by
 refine bodyPost_ret (results_cell_tmp2 h _ _ ⟨b, 0, none⟩ (.agg r.cells) hp ?_) hd hR;exact load_block (x := r) ht hb
structure DecAt (w wr : World) (bR br bp : Nat) (X : List UInt8) (k : Nat) (s : ByteArray × ByteArray × ByteArray) (A : Option Addr) (c : Nat) (rl : List UInt8) : Prop where
 st : DecSt ((X.take (X.getD 0 0).toNat).drop 5) k s rl
 inn : BytesIn w.heap.size wr A rl.length c rl
 len : rl.length <= 300
 ext : Ext w wr
 res : wr.heap[bR]? = some (.cells Record.zero.cells 112)
 rec_ : wr.heap[br]? = some (.cells (recOf X s).cells 112)
 ptr : wr.heap[bp]? = some (.cells #[.pointer (some ⟨br, 3, none⟩), .pointer (some ⟨br, 4, none⟩), .pointer (some ⟨br, 5, none⟩)] 231)
def DecRel (w : World) (bR br bp : Nat) (X : List UInt8) (i rest : Value) (wr : World) : Prop :=
 ∃ k s A c rl, i = .int .i64 (k : Nat) /\ k <= 3 /\ rest = .slice A rl.length c /\ DecAt w wr bR br bp X k s A c rl
theorem parseStr_len {b r : List UInt8} {x : ByteArray} (h : parseStr b = some (x, r)) : r.length <= b.length := by
 rw [(parseStr_some h).1, List.length_append]; omega
theorem DecAt.ext' {w wr w' : World} {bR br bp : Nat} {X : List UInt8} {k : Nat} {s : ByteArray × ByteArray × ByteArray} {A : Option Addr} {c : Nat} {rl : List UInt8} (h : DecAt w wr bR br bp X k s A c rl) (hx : Ext wr w') : DecAt w w' bR br bp X k s A c rl :=
 ⟨h.st, h.inn.ext hx, h.len, h.ext.then hx fun _ h => h.elim, hx.blk h.res id, hx.blk h.rec_ id, hx.blk h.ptr id⟩
theorem DecAt.next {w wr : World} {bR br bp : Nat} {X : List UInt8} {k : Nat} {s : ByteArray × ByteArray × ByteArray} {A A' : Option Addr} {c c' : Nat} {rl r' : List UInt8} {x : ByteArray} (h : DecAt w wr bR br bp X k s A c rl) (hk : k < 3) (hn : parseStr rl = some (x, r'))
 (hi : BytesIn w.heap.size wr A' r'.length c' r') (hb1 : bR ≠ br) (hb2 : bp ≠ br) (hb3 : w.heap.size <= br) : DecAt w (wr.setCell ⟨br, 3 + k, none⟩ (.string x)) bR br bp X (k + 1) (setStr k s x) A' c' r' :=
 ⟨decSt_next h.st hk hn, ⟨hi.len, hi.cap, hi.max, fun j y hj => by
  obtain ⟨ad, e, hlt, hat⟩ := hi.reads j y hj;exact ⟨ad, e, hlt, hat.of_same (heap_setCell_other _ _ _ _ (by rw [show (ad.add (j * Lies.size UInt8)).block = ad.block by unfold Addr.add; split <;> rfl]; show ad.block ≠ br; omega))⟩, by simpa using hi.below⟩, Nat.le_trans (parseStr_len hn) h.len,
  h.ext.setCell (.inr hb3) _, by rw [heap_setCell_other _ _ _ _ hb1]; exact h.res, by rw [heap_setCell_same _ _ _ _ _ _ h.rec_, recOf_set X s k hk], by rw [heap_setCell_other _ _ _ _ hb2]; exact h.ptr⟩
theorem codec_decode (w : World) (A : Option Addr) (n c : Nat) (l : List UInt8) (h : BytesIn w.heap.size w A n c l) (hl : l.length <= 10000) :
 Calls Tryz.prog 156 #[.slice A n c] w (DecPost w l) := by
 have HB := lh h;obtain ⟨rfl, hcap, hmax, hrd, _⟩ := h;have hm := hmax;unfold maxLen at hm;cases l with
 | nil =>
   clear hrd;go_enter Tryz.func156, Tryz.ntmps156
   go_wp2
   refine ret_rec rfl isRecord w.heap.size Record.zero rfl (heap_alloc_new _ _) rfl ⟨rfl, (Touch.refl _ w).alloc _⟩
 | cons x l =>
   obtain ⟨ad, rfl, hadb, hat⟩ := hrd 0 x rfl;have hlen : (x :: l).length = l.length + 1 := rfl;have hx1 : (0 : Int) <= x.toNat := by omega
   have hx2 : (x.toNat : Int) <= 255 := by have := x.toNat_lt; omega
   have HA := lh hadb;have HR := lh hrd;have hl2 : l.length <= 10000 := by simp at hl; omega
   have hcap' : l.length + 1 <= c := hcap;have hz : ((l.length : Int) + 1 == 0) = false := bF (by omega);have hc0 : (w.alloc (.cells Record.zero.cells 112)).cell? ad = some (.int .u8 (x.toNat : Int)) := hat.of_same (Below.heap_alloc _ _ _ hadb) 0 _ rfl;rw [hlen];clear hrd hat hl hcap hlen hadb;by_cases hlt : l.length + 1 < x.toNat
   ·have hd : decide ((l.length : Int) + 1 < (x.toNat : Int)) = true := decide_eq_true (by omega);have HD := lh (show decode (x :: l) = (Record.zero, 0, 8) from if_pos (.inr (by simpa using hlt)));clear hlt;go_enter Tryz.func156, Tryz.ntmps156
    go_wp2
    refine ret_rec rfl isRecord w.heap.size Record.zero rfl (heap_alloc_new _ _) rfl ⟨?_, (Touch.refl _ w).alloc _⟩;rw [HD.out];rfl
   have hd : decide ((l.length : Int) + 1 < (x.toNat : Int)) = false := decide_eq_false (by omega);by_cases h5 : x.toNat < 5
   ·have h5' : (x.toNat : Int) < 5 := by omega
    have HD := lh (show decode (x :: l) = (Record.zero, 0, 3) from by unfold decode; rw [if_neg (by simpa using hlt), if_pos (by simpa using h5)]);clear hlt;go_enter Tryz.func156, Tryz.ntmps156
    go_wp2
    refine ret_rec rfl isRecord w.heap.size Record.zero rfl (heap_alloc_new _ _) rfl ⟨?_, (Touch.refl _ w).alloc _⟩;rw [HD.out];rfl
   ·have h5' : ¬ (x.toNat : Int) < 5 := by omega
    have HLT := lh hlt;have H5 := lh h5;clear hlt h5;have h5l : 5 <= l.length + 1 := by have := HLT.out; have := H5.out; omega
    have SB := lh (show ∀ w', Ext w w' -> w'.cell? ⟨ad.block, ad.off + 1, none⟩ = some (.int .u8 (((x :: l).getD 1 0).toNat : Int)) /\ w'.cell? ⟨ad.block, ad.off + 2, none⟩ = some (.int .u8 (((x :: l).getD 2 0).toNat : Int)) /\
     w'.cell? ⟨ad.block, ad.off + 3, none⟩ = some (.int .u8 (((x :: l).getD 3 0).toNat : Int)) /\ w'.cell? ⟨ad.block, ad.off + 4, none⟩ = some (.int .u8 (((x :: l).getD 4 0).toNat : Int)) from fun w' hx' => by
     have key : ∀ k, k ≠ 0 -> k < 5 -> w'.cell? ⟨ad.block, ad.off + k, none⟩ = some (.int .u8 (((x :: l).getD k 0).toNat : Int)) := fun k hk0 hk => by
      have e : (x :: l)[k]? = some ((x :: l).getD k 0) := by rw [List.getD_eq_getElem?_getD, List.getElem?_eq_getElem (by simp; omega)]; rfl
      obtain ⟨ad', e1, _, hat⟩ := HR.out k _ e;cases e1
      have e2 : ad.add (k * Lies.size UInt8) = ⟨ad.block, ad.off + k, none⟩ := by
       rw [show k * Lies.size UInt8 = k from Nat.mul_one k]; unfold Addr.add; rw [if_neg (by simpa using hk0)]
      rw [e2] at hat
      exact hat.of_same (hx'.block _ HA.out id) 0 _ rfl
     exact ⟨key 1 (by decide) (by decide), key 2 (by decide) (by decide), key 3 (by decide) (by decide), key 4 (by decide) (by decide)⟩)
    have y1 : (0 : Int) <= ((x :: l).getD 1 0).toNat /\ (((x :: l).getD 1 0).toNat : Int) <= 255 := ⟨by omega, by have := ((x :: l).getD 1 0).toNat_lt; omega⟩
    generalize hY1 : (((x :: l).getD 1 0).toNat : Int) = Y1 at SB y1;have y2 : (0 : Int) <= ((x :: l).getD 2 0).toNat /\ (((x :: l).getD 2 0).toNat : Int) <= 255 := ⟨by omega, by have := ((x :: l).getD 2 0).toNat_lt; omega⟩
    generalize hY2 : (((x :: l).getD 2 0).toNat : Int) = Y2 at SB y2;have y3 : (0 : Int) <= ((x :: l).getD 3 0).toNat /\ (((x :: l).getD 3 0).toNat : Int) <= 255 := ⟨by omega, by have := ((x :: l).getD 3 0).toNat_lt; omega⟩
    generalize hY3 : (((x :: l).getD 3 0).toNat : Int) = Y3 at SB y3;have y4 : (0 : Int) <= ((x :: l).getD 4 0).toNat /\ (((x :: l).getD 4 0).toNat : Int) <= 255 := ⟨by omega, by have := ((x :: l).getD 4 0).toNat_lt; omega⟩
    generalize hY4 : (((x :: l).getD 4 0).toNat : Int) = Y4 at SB y4;have HY := lh (show ∀ s, recOf (x :: l) s = ⟨Y1, Y2, ⟨Y3, s.1, s.2.1, s.2.2⟩, ⟨Y4, noText⟩⟩ from fun s => by unfold recOf; rw [hY1, hY2, hY3, hY4]);clear hY1 hY2 hY3 hY4;obtain ⟨y1a, y1b⟩ := y1;obtain ⟨y2a, y2b⟩ := y2;obtain ⟨y3a, y3b⟩ := y3;obtain ⟨y4a, y4b⟩ := y4;go_enter Tryz.func156, Tryz.ntmps156
    go_wp2
    change Code.wp Tryz.prog _ _ _ (w.alloc (.cells Record.zero.cells 112));have hzb : (w.alloc (.cells Record.zero.cells 112)).heap[w.heap.size]? = some (.cells Record.zero.cells 112) := heap_alloc_new _ _;have X1 := lh (show Ext w (w.alloc (.cells Record.zero.cells 112)) from (Touch.refl _ _).alloc _);have hs1 : w.heap.size < (w.alloc (.cells Record.zero.cells 112)).heap.size := by simp
    generalize w.alloc (.cells Record.zero.cells 112) = w1 at hzb X1 hs1 hc0 ⊢;have HZB := lh hzb;clear hzb;have hw1 : IntKind.i64.wrap Y1 = Y1 := IntWalk.i64_in _ (by omega);have hw2 : IntKind.i64.wrap Y2 = Y2 := IntWalk.i64_in _ (by omega);have hw4 : IntKind.i64.wrap Y4 = Y4 := IntWalk.i64_in _ (by omega);have b1 : (1 : Int) < (l.length : Int) + 1 := by omega
    have b2 : (2 : Int) < (l.length : Int) + 1 := by omega
    have b3 : (3 : Int) < (l.length : Int) + 1 := by omega
    have b4 : (4 : Int) < (l.length : Int) + 1 := by omega
    have d1 : 1 < l.length + 1 := by omega
    have d2 : 2 < l.length + 1 := by omega
    have d3 : 3 < l.length + 1 := by omega
    have d4 : 4 < l.length + 1 := by omega
    go_region_held3 (fun w' => w'.cell? ⟨ad.block, ad.off + 1, none⟩ = some (.int .u8 Y1) /\ w'.cell? ⟨ad.block, ad.off + 2, none⟩ = some (.int .u8 Y2) /\ w'.cell? ⟨ad.block, ad.off + 4, none⟩ = some (.int .u8 Y4))
     (first | (obtain ⟨q1, q2, q3, q4⟩ := SB.out _ (X1.out.drew); exact ⟨q1, q2, q4⟩) | (obtain ⟨q1, q2, q3, q4⟩ := SB.out _ (X1.out.drew.alloc _); exact ⟨q1, q2, q4⟩) | (obtain ⟨q1, q2, q3, q4⟩ := SB.out _ ((X1.out.alloc _).drew); exact ⟨q1, q2, q4⟩)) (fail)
    have hrb : (w1.alloc (.cells (⟨Y1, Y2, ⟨0, noText, noText, noText⟩, ⟨Y4, noText⟩⟩ : Record).cells 112)).drew.heap[w1.heap.size]? = some (.cells (⟨Y1, Y2, ⟨0, noText, noText, noText⟩, ⟨Y4, noText⟩⟩ : Record).cells 112) := heap_alloc_new _ _;have X2 := lh (show Ext w (w1.alloc (.cells (⟨Y1, Y2, ⟨0, noText, noText, noText⟩, ⟨Y4, noText⟩⟩ : Record).cells 112)).drew from (X1.out.alloc _).drew);have hz2 := lh ((Touch.drew (Touch.alloc (Touch.refl (fun _ => False) w1) (.cells (⟨Y1, Y2, ⟨0, noText, noText, noText⟩, ⟨Y4, noText⟩⟩ : Record).cells 112))).blk HZB.out id);have hne : w.heap.size < w1.heap.size := hs1;change Exit.then _ _ _ _ (w1.alloc (.cells (⟨Y1, Y2, ⟨0, noText, noText, noText⟩, ⟨Y4, noText⟩⟩ : Record).cells 112)).drew
    generalize (w1.alloc (.cells (⟨Y1, Y2, ⟨0, noText, noText, noText⟩, ⟨Y4, noText⟩⟩ : Record).cells 112)).drew = w2 at hrb X2 hz2 ⊢;generalize w1.heap.size = br at hrb hne ⊢;clear X1 HZB hc0 hs1 hw1 hw2 hw4;have hg2 : w2.cell? ⟨br, 2, none⟩ = some (.int .i64 0) := cell_of hrb 2;have hf2 := frozen_of hrb 2;obtain ⟨_, _, q3, _⟩ := SB.out _ X2.out;have hnl : (x.toNat : Int) <= l.length + 1 := by have := HLT.out; omega
    have hnc : (x.toNat : Int) <= c := by omega
    have hw3 : IntKind.i64.wrap Y3 = Y3 := IntWalk.i64_in _ (by omega);go_wp2
    have hr3 : (w2.setCell ⟨br, 2, none⟩ (.int .i64 Y3)).heap[br]? = some (.cells (recOf (x :: l) (noText, noText, noText)).cells 112) := by
     rw [heap_setCell_same w2 br 2 _ _ _ hrb, HY.out]; rfl
    have hlt2 : br < w2.heap.size := (aG hrb).1;have X3 := lh (show Ext w ((w2.setCell ⟨br, 2, none⟩ (.int .i64 Y3)).alloc (.cells #[.pointer (some ⟨br, 3, none⟩), .pointer (some ⟨br, 4, none⟩), .pointer (some ⟨br, 5, none⟩)] 231)) from (X2.out.setCell (.inr (Nat.le_of_lt hne)) _).alloc _);have hrl : (((x :: l).take x.toNat).drop 5).length = x.toNat - 5 := by rw [List.length_drop, List.length_take]; simp; omega
    have hD0 : DecAt w ((w2.setCell ⟨br, 2, none⟩ (.int .i64 Y3)).alloc (.cells #[.pointer (some ⟨br, 3, none⟩), .pointer (some ⟨br, 4, none⟩), .pointer (some ⟨br, 5, none⟩)] 231)) w.heap.size br w2.heap.size (x :: l) 0 (noText, noText, noText) (cutA (some ad) c 5 1) (c - 5) (((x :: l).take x.toNat).drop 5) := by
     refine ⟨⟨rfl, rfl⟩, ⟨rfl, by rw [hrl]; omega, by unfold maxLen; omega, ?_, X3.out.size⟩, by rw [hrl]; omega, X3.out, ?_, ?_, ?_⟩
     ·have h1 := ((HR.out.cutA (m := c) (by simp; omega) 5).take (x.toNat - 5)).below fun k hk => X3.out.block k hk id;rw [<- List.drop_take] at h1;exact h1
     ·rw [heap_alloc_past _ _ _ (by simp; omega), heap_setCell_other _ _ _ _ (by simp; omega)]; exact hz2.out
     ·rw [heap_alloc_past _ _ _ (by simp; omega)]; exact hr3
     ·exact heap_alloc_at _ _ _ (by simp)
    have D0 := lh hD0;have hrl' := lh hrl;clear hD0 hrl hr3 hrb hg2 hf2 q3 hw3;have hbp : br < w2.heap.size := hlt2;clear hlt2;generalize (w2.setCell ⟨br, 2, none⟩ (.int .i64 Y3)).alloc (.cells #[.pointer (some ⟨br, 3, none⟩), .pointer (some ⟨br, 4, none⟩), .pointer (some ⟨br, 5, none⟩)] 231) = w3 at D0 X3 ⊢;generalize w2.heap.size = bp at D0 hbp ⊢;generalize hbR : w.heap.size = bR at D0 hne ⊢;have HBR := lh hbR;clear hbR;go_loopw [7, 65] (fun rest i wr => DecRel w bR br bp (x :: l) i rest wr) (fun _ i _ => 3 - (intOf i).toNat)
    case atStart => exact ⟨0, _, _, _, _, rfl, by omega, by rw [hrl'.out], D0.out⟩
    case round =>
     obtain ⟨k, s, A, cc, rl, rfl, hk, rfl, hD⟩ := hrel;have D := lh hD;by_cases hlt : k < 3
     ·have hki : (k : Int) < 3 := by omega
      have hpt : wr.cell? ⟨bp, k, none⟩ = some (.pointer (some ⟨br, 3 + k, none⟩)) := by
       rw [cell_of hD.ptr];obtain rfl | rfl | rfl : k = 0 \/ k = 1 \/ k = 2 := by omega
       all_goals rfl
      clear hD D0;go_wp2_with fail
      refine (codec_text w.heap.size wr A rl.length cc rl D.out.inn (by have := D.out.len; omega)).mono ?_;rintro e w5 (⟨hn, rfl, hx5⟩ | ⟨y, r', hn, A', c', rfl, hi', hx5⟩)
      ·have D5 := lh (D.out.ext' hx5);have hb5 := D5.out.res;obtain ⟨hl5, hb5'⟩ := aG hb5;have HD := lh (show decode (x :: l) = (Record.zero, 0, 3) from by unfold decode; rw [if_neg (by simpa using HLT.out), if_neg (by simpa using H5.out), show ((x :: l).getD 0 0) = x from rfl, decSt_none (b := ((x :: l).take x.toNat).drop 5) D.out.st hlt hn]);clear hn hx5 D;go_wp2
       refine ret_rec rfl isRecord bR Record.zero rfl (setRow_heap _ _ _ _ _ _ D5.out.res) rfl ⟨?_, D5.out.ext.setRow (.inr (Nat.le_of_eq HBR.out)) _⟩;rw [HD.out];rfl
      ·have D5 := D.out.ext' hx5;have hk3 : wr.heap.size <= w5.heap.size := hx5.size;have hg5 : w5.cell? ⟨br, 3 + k, none⟩ = (recOf (x :: l) s).cells[3 + k]? := cell_of D5.rec_ _;have hg6 : ∃ v, (recOf (x :: l) s).cells[3 + k]? = some v := ⟨_, Array.getElem?_eq_getElem (by simp; omega)⟩
       obtain ⟨v6, hg6⟩ := hg6;rw [hg6] at hg5;have hf5 := frozen_of D5.rec_ (3 + k);have D6 := lh (D5.next hlt hn hi' (by omega) (by omega) (by have := HBR.out; omega));clear hg6 D5 D hn hi' hx5;go_wp2
       go_roundw
       case rel => exact ⟨k + 1, _, _, _, _, by go_num, by omega, rfl, D6.out⟩
       case measure => simp [intOf]; omega
     ·obtain rfl : k = 3 := by omega
      clear hD D0 hlt hk;have hP : parse3 (((x :: l).take x.toNat).drop 5) = if rl = [] then some s else none := decSt_end D.out.st
      cases rl with
      | cons y rl =>
        have HD := lh (show decode (x :: l) = (Record.zero, 0, 3) from by unfold decode; rw [if_neg (by simpa using HLT.out), if_neg (by simpa using H5.out), show ((x :: l).getD 0 0) = x from rfl, hP]; rfl);have hll : (y :: rl).length = rl.length + 1 := rfl;have hp1 : (0 : Int) < (rl.length : Int) + 1 := by omega
        have hb5 := D.out.res;obtain ⟨hl5, hb5'⟩ := aG hb5;clear hP;go_wp2
        refine ret_rec rfl isRecord bR Record.zero rfl (setRow_heap _ _ _ _ _ _ D.out.res) rfl ⟨?_, D.out.ext.setRow (.inr (Nat.le_of_eq HBR.out)) _⟩;rw [HD.out];rfl
      | nil =>
        have HP := lh (show parse3 (((x :: l).take x.toNat).drop 5) = some s by rw [hP]; rfl);clear hP;have hb4 := D.out.rec_;obtain ⟨hl4, hb4'⟩ := aG hb4;go_wp2_with fail
        have hsz := parse3_some (b := ((x :: l).take x.toNat).drop 5) (x := s.1) (y := s.2.1) (z := s.2.2) HP.out;refine (codec_check wr (recOf (x :: l) s) ⟨by have := hsz.2.1; show s.1.size <= _; omega, by have := hsz.2.2.1; show s.2.1.size <= _; omega, by have := hsz.2.2.2; show s.2.2.size <= _; omega⟩).mono ?_;rintro e w5 ⟨rfl, hx5⟩;have D5 := lh (D.out.ext' hx5);have hb5 := D5.out.res;obtain ⟨hl5, hb5'⟩ := aG hb5;have hb6 := D5.out.rec_;obtain ⟨hl6, hb6'⟩ := aG hb6;clear hx5 hsz hb4 hl4 hb4';by_cases hrc : recCode (recOf (x :: l) s) = 0
        ·have HD := lh (show decode (x :: l) = (recOf (x :: l) s, (x.toNat : Int), 0) from by unfold decode; rw [if_neg (by simpa using HLT.out), if_neg (by simpa using H5.out), show ((x :: l).getD 0 0) = x from rfl, HP.out]; exact if_neg (by simpa using hrc));rw [hrc];clear hrc;go_wp2
         refine ret_rec rfl isRecord bR (recOf (x :: l) s) rfl (setRow_heap _ _ _ _ _ _ D5.out.res) rfl ⟨?_, D5.out.ext.setRow (.inr (Nat.le_of_eq HBR.out)) _⟩;rw [HD.out];rfl
        ·have HD := lh (show decode (x :: l) = (Record.zero, 0, recCode (recOf (x :: l) s)) from by unfold decode; rw [if_neg (by simpa using HLT.out), if_neg (by simpa using H5.out), show ((x :: l).getD 0 0) = x from rfl, HP.out]; exact if_pos (by simpa using hrc));have hcb : (recCode (recOf (x :: l) s) != 0) = true := bne_iff_ne.2 hrc;generalize hgc : recCode (recOf (x :: l) s) = code at hcb HD ⊢;clear hrc hgc;go_wp2
         refine ret_rec rfl isRecord bR Record.zero rfl (setRow_heap _ _ _ _ _ _ D5.out.res) rfl ⟨?_, D5.out.ext.setRow (.inr (Nat.le_of_eq HBR.out)) _⟩;rw [HD.out];rfl
attribute [local go_sem ↓] sliced_cut
attribute [local go_sem ↓] sliced_cut
structure AllAt (w wr : World) (l : List UInt8) (at_ : Nat) (done : List Record) (rest : List UInt8) (v : Value) : Prop where
 cut : l = logBytes done ++ rest
 at_ : at_ = (logBytes done).length
 each : ∀ r ∈ done, RecOk r
 own : Owns wr 112 v done
 new : ∀ j, v.ownBlock = some j -> w.heap.size <= j
 ext : Ext w wr
def AllRel (w : World) (l : List UInt8) (v i : Value) (wr : World) : Prop := ∃ (k : Nat) (done : List Record) (rest : List UInt8), i = .int .i64 k /\ AllAt w wr l k done rest v
theorem log_len {l : List Record} (h : ∀ r ∈ l, RecOk r) : l.length * 8 <= (logBytes l).length := by
 induction l with
 | nil => simp [logBytes]
 | cons r l ih =>
   have h1 := ih fun x hx => h x (List.mem_cons_of_mem _ hx);have h2 := (recBytes_bounds (h r List.mem_cons_self)).1;rw [logBytes_cons, List.length_append, List.length_cons];omega
def AllPost (w : World) (l : List UInt8) (e : Ending) (w' : World) : Prop := NewListC w 112 (recAll l) ((logBytes (recAll l)).length : Int) e w'
theorem codec_all (w : World) (A : Option Addr) (n c : Nat) (l : List UInt8) (h : BytesIn w.heap.size w A n c l) (hl : l.length <= 10000) :
 Calls Tryz.prog 138 #[.slice A n c] w (AllPost w l) := by
 have HB := lh h;obtain ⟨rfl, hcap, hmax, hrd, _⟩ := h;have hm := hmax;unfold maxLen at hm;clear hrd;go_enter Tryz.func138, Tryz.ntmps138
 go_wp2
 go_loopw [4, 5] (fun v i wr => AllRel w l v i wr) (fun _ i _ => l.length - (intOf i).toNat)
 case atStart => exact ⟨0, [], l, rfl, by simp [logBytes], by simp [logBytes], fun r h => by simp at h, Owns.nil _ _, fun j hj => by simp [Value.ownBlock] at hj, Touch.refl _ _⟩
 case round =>
  obtain ⟨k, done, rest, rfl, hA⟩ := hrel;have HA := lh hA;obtain ⟨A0, c0, rfl, hc0, hcm0, _⟩ := hA.own.form;have hkl : l.length = k + rest.length := by rw [hA.cut, hA.at_, List.length_append]
  have hdl : done.length * 8 <= k := by rw [hA.at_]; exact log_len hA.each
  have hk1 : (k : Int) <= l.length := by omega
  have hk2 : (k : Int) <= c := by omega
  have HKL := lh hkl
  have hbi : BytesIn wr.heap.size wr (cutA A c k 1) (l.length - k) (c - k) rest := by
   have hrl : rest = l.drop k := by rw [hA.cut, hA.at_, List.drop_left]
   refine ⟨by omega, by omega, by unfold maxLen; omega, ?_, Nat.le_refl _⟩;rw [hrl];exact (HB.out.reads.ext hA.ext).cutA HB.out.cap k
  have HBI := lh hbi;have hr10 : rest.length <= 10000 := by omega
  clear hA hcm0 hkl hbi;go_wp2_with fail
  refine (codec_decode wr _ _ _ rest HBI.out hr10).mono ?_;rintro e w5 ⟨rfl, hx5⟩;have X5 := lh hx5;have HO5 := lh (HA.out.own.ext hx5);clear hx5;by_cases hcd : (decode rest).2.2 = 0
  ·obtain ⟨hok, r', hr', hn'⟩ := decode_zero hcd;have HOK := lh hok;have hbd := recBytes_bounds hok;have hlr : rest.length = (recBytes (decode rest).1).length + r'.length := by rw [<- List.length_append, <- hr']
   have HR := lh hr';have hn0 : (decode rest).2.1 = ((recBytes (decode rest).1).length : Int) := hn';rw [hcd, hn0];generalize (decode rest).1 = rc at HOK HR hbd hlr ⊢;clear hcd hok hr' hn' hn0;obtain ⟨hb1, hb2⟩ := hbd;have hkl2 : l.length = k + ((recBytes rc).length + r'.length) := by rw [HKL.out, hlr]
   have hkn : k + (recBytes rc).length <= l.length := by omega
   clear hlr hkl2;generalize hrn : (recBytes rc).length = rn at hb1 hb2 hkn ⊢;have HRN := lh hrn;clear hrn
   go_wp2_with (at_builtin; refine wpList_append_own' (by rfl) (.tmp 21) (.tmp 23) 62 (by rfl) elemRecord Tryz.underlying62 (v := .slice A0 done.length c0) (l := done) (by rfl) (HO5.out.ext (((Touch.refl (fun _ => False) w5).alloc (.cells rc.cells 112)).alloc (.cells rc.cells 112))) [rc] (by rfl) (done.length + 1) (by rfl) (by rfl) (reads_block (x := rc) (t := 112) (fr := (0, 0)) (heap_alloc_at _ _ _ (by simp)) (w5.heap.size + 2) (by simp)) (by simp; omega) ?_
                intro A1 c1 w1 hown1 hgrow1 hat1;have HO1 := lh hown1;have HG1 := lh hgrow1;have HA1 := lh hat1;clear hown1 hgrow1 hat1)
   have hx6 : Ext w ((w5.alloc (.cells rc.cells 112)).alloc (.cells rc.cells 112)) := ((HA.out.ext.then X5.out fun _ h => h.elim).alloc _).alloc _
   have hfin : AllAt w w1 l (k + rn) (done ++ [rc]) r' (.slice A1 (done.length + 1) c1) := by
    have hsz := hx6.size;refine ⟨?_, ?_, ?_, HO1.out, fun j hj => ?_, hx6.grown HG1.out fun j hj => .inr (HA.out.new j hj)⟩
    ·rw [logBytes_append, logBytes_one, List.append_assoc, <- HR.out]; exact HA.out.cut
    ·rw [logBytes_append, logBytes_one, List.length_append, HRN.out, <- HA.out.at_]
    ·intro r hr;rcases List.mem_append.1 hr with hr | hr
     ·exact HA.out.each r hr
     ·rw [List.mem_singleton.1 hr]; exact HOK.out
    ·rcases HA1.out with e | e
     ·exact HA.out.new j (by rw [<- e]; exact hj)
     ·rw [e] at hj; injection hj with hj; omega
   have HFIN := lh hfin;clear hx6 hfin;go_roundw
   case rel => exact ⟨k + rn, _, _, by go_num, HFIN.out⟩
   case measure => simp [intOf]; omega
  ·have hcb : ((decode rest).2.2 != 0) = true := bne_iff_ne.2 hcd;have HALL := lh (show recAll l = done from recAll_of ⟨HA.out.each, rest, HA.out.cut, hcd⟩);generalize (decode rest).2.2 = code at hcb ⊢;clear hcd;go_wp2
   go_ret2
   refine ⟨A0, c0, ?_, ?_, (HA.out.ext.then X5.out fun _ h => h.elim).alloc _, ?_⟩
   ·rw [HALL.out, <- HA.out.at_]; rfl
   ·rw [HALL.out]; exact HO5.out.ext ((Touch.refl _ _).alloc _)
   ·rw [HALL.out]; exact HA.out.new
theorem Owns.bytesIn {w : World} {E : TypeId} {A : Option Addr} {n c : Nat} {l : List UInt8} (h : Owns w E (.slice A n c) l) : BytesIn w.heap.size w A n c l := by
 obtain ⟨A', c', e, hc, hm, hr⟩ := h.form;cases e;exact ⟨rfl, hc, hm, hr, Nat.le_refl _⟩
end Go.Proofs.YtalfbhhldfffkaaGreatDoor
