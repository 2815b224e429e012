/- Slot: a part of a block: what lies ahead of it and behind it stands. No program is walked here. (And behind it: HChest1, HChest2, HGuest1, HGuest2, HBag, House1.) -/
import Derived.Test.YtalfbhhldfffkaaGreatDoorGBasis
import Derived.Test.YtalfbhhldfffkaaGreatDoorMem
import Derived.Test.YtalfbhhldfffkaaGreatDoorChest5
import Derived.Test.YtalfbhhldfffkaaGreatDoorGClient
import Derived.BigRegion
import Derived.Test.YtalfbhhldfffkaaGreatDoorGPost
import Derived.Test.YtalfbhhldfffkaaGreatDoorGPlain
set_option maxHeartbeats 8000000
set_option maxRecDepth 100000
namespace Go.Proofs.YtalfbhhldfffkaaGreatDoor
open Go.RowKit
structure Slot (o : Nat) where
 pre : Array Value
 post : Array Value
 size : pre.size = o
def Slot.fill {o : Nat} (s : Slot o) (cs : Array Value) : Array Value := s.pre ++ cs ++ s.post
section
variable {o : Nat} (s : Slot o) (cs ds : Array Value)
theorem Slot.len : (s.fill cs).size = o + cs.size + s.post.size := by unfold Slot.fill; rw [Array.size_append, Array.size_append, s.size]
theorem Slot.get {j : Nat} (h : j < cs.size) : (s.fill cs)[o + j]? = cs[j]? := by
 have hs := s.size;unfold Slot.fill;rw [Array.getElem?_append_left (by rw [Array.size_append]; omega), Array.getElem?_append_right (by omega)];congr 1
 omega
theorem Slot.get0 (h : 0 < cs.size) : (s.fill cs)[o]? = cs[0]? := s.get cs h
theorem Slot.set {j : Nat} (h : j < cs.size) (u : Value) : (s.fill cs).setIfInBounds (o + j) u = s.fill (cs.setIfInBounds j u) := by
 have hs := s.size;refine Array.ext_getElem? fun i => ?_;rw [Array.getElem?_setIfInBounds];by_cases hi : o + j = i
 ·subst hi;rw [if_pos rfl, if_pos (by rw [s.len]; omega), s.get _ (by simpa using h), Array.getElem?_setIfInBounds, if_pos rfl, if_pos h]
 ·rw [if_neg hi];unfold Slot.fill;by_cases h1 : i < o
  ·rw [Array.getElem?_append_left (by rw [Array.size_append]; omega), Array.getElem?_append_left (by omega), Array.getElem?_append_left (by rw [Array.size_append]; omega), Array.getElem?_append_left (by omega)]
  ·by_cases h2 : i < o + cs.size
   ·rw [Array.getElem?_append_left (by rw [Array.size_append]; omega), Array.getElem?_append_right (by omega), Array.getElem?_append_left (by rw [Array.size_append, Array.size_setIfInBounds]; omega), Array.getElem?_append_right (by omega), Array.getElem?_setIfInBounds, if_neg (by omega)]
   ·rw [Array.getElem?_append_right (by rw [Array.size_append]; omega), Array.getElem?_append_right (by rw [Array.size_append, Array.size_setIfInBounds]; omega)];congr 1
    simp
theorem Slot.splice {j : Nat} (h : j + ds.size <= cs.size) : splice (s.fill cs) ds (o + j) = s.fill (Go.Proofs.YtalfbhhldfffkaaGreatDoor.splice cs ds j) := by
 have hs := s.size;have hs' : s.pre.toList.length = o := by simpa using hs
 have hc : cs.toList.length = cs.size := by simp
 unfold Slot.fill Go.Proofs.YtalfbhhldfffkaaGreatDoor.splice;apply Array.toList_inj.1;simp only [Array.toList_append, List.append_assoc];rw [List.take_append, List.take_of_length_le (show s.pre.toList.length <= o + j by omega), List.take_append_of_le_length (show o + j - s.pre.toList.length <= cs.toList.length by omega)];rw [List.drop_append, List.drop_of_length_le (show s.pre.toList.length <= o + j + ds.size by omega), List.nil_append, List.drop_append_of_le_length (show o + j + ds.size - s.pre.toList.length <= cs.toList.length by omega)];rw [show o + j - s.pre.toList.length = j by omega, show o + j + ds.size - s.pre.toList.length = j + ds.size by omega];simp only [List.append_assoc]
theorem Slot.part {j n : Nat} (h : j + n <= cs.size) : (s.fill cs).extract (o + j) (o + (j + n)) = cs.extract j (j + n) := by
 refine Array.ext_getElem? fun i => ?_;have hl := s.len cs;rw [Array.getElem?_extract, Array.getElem?_extract];by_cases hi : i < n
 ·rw [if_pos (by omega), if_pos (by omega), show o + j + i = o + (j + i) by omega, s.get cs (by omega)]
 ·rw [if_neg (by omega), if_neg (by omega)]
end
structure HoldsS {α : Type} [Lies α] {o : Nat} (w : World) (g : Nat) (s : Slot o) (T E : TypeId) (v : Value) (l : List α) : Prop where
 cell : w.heap[g]? = some (.cells (s.fill #[v]) T (0, 0))
 own : Owns w E v l
section
variable {α : Type} [Lies α] {o : Nat} {w w' : World} {g : Nat} {s : Slot o} {T E : TypeId} {v v' : Value} {l l' : List α}
theorem HoldsS.lt (h : HoldsS w g s T E v l) : g < w.heap.size := (aG h.cell).1
theorem slot_cell {w : World} {g : Nat} {T : TypeId} {fr : Nat × Nat} {o : Nat} {s : Slot o} {v : Value} (h : w.heap[g]? = some (.cells (s.fill #[v]) T fr)) : w.cell? ⟨g, o, none⟩ = some v := by
 rw [cell_of h, s.get0 _ (by simp)];rfl
theorem slot_put {w : World} {g : Nat} {T : TypeId} {o : Nat} {s : Slot o} {v : Value} (h : w.heap[g]? = some (.cells (s.fill #[v]) T (0, 0))) (u : Value) : (w.setCell ⟨g, o, none⟩ u).heap[g]? = some (.cells (s.fill #[u]) T (0, 0)) := by
 have h1 := heap_setCell_same w g o (s.fill #[v]) T u h;have h2 := s.set #[v] (j := 0) (by simp) u;rw [Nat.add_zero] at h2;rw [h2] at h1;exact h1
theorem HoldsS.at0 (h : HoldsS w g s T E v l) : w.cell? ⟨g, o, none⟩ = some v := slot_cell h.cell
theorem HoldsS.foot_lt (h : HoldsS w g s T E v l) : ∀ k, foot g v k -> k < w.heap.size := fun k hk => by
 rcases hk with rfl | hk
 ·exact h.lt
 ·exact h.own.lt k hk
theorem HoldsS.touch {S : Nat -> Prop} (h : HoldsS w g s T E v l) (ht : Touch S w w') (hd : ∀ k, foot g v k -> ¬ S k) : HoldsS w' g s T E v l :=
 ⟨by rw [ht.block g h.lt (hd g (.inl rfl))]; exact h.cell, h.own.touch ht fun k hk => hd k (.inr hk)⟩
theorem HoldsS.ext (h : HoldsS w g s T E v l) (ht : Ext w w') : HoldsS w' g s T E v l := h.touch ht fun _ _ => id
theorem HoldsS.stored {w1 : World} {v0 : Value} (hg : w1.heap[g]? = some (.cells (s.fill #[v0]) T (0, 0))) (ho : Owns w1 E v l) (hne : E ≠ T) : HoldsS (w1.setCell ⟨g, o, none⟩ v) g s T E v l :=
 ⟨slot_put hg v, ho.setCell (ho.elem hg hne) v⟩
theorem HoldsS.appended {wx w1 : World} (h : HoldsS w g s T E v l) (hx : Ext w wx) (hne : E ≠ T)
 (hown : Owns w1 E v' l') (hgrow : wx.grownBy w1 v.ownBlock) (hat : v'.ownBlock = v.ownBlock \/ v'.ownBlock = some wx.heap.size) :
 HoldsS (w1.setCell ⟨g, o, none⟩ v') g s T E v' l' /\ Touch (foot g v) w (w1.setCell ⟨g, o, none⟩ v') /\ ∀ k, v'.ownBlock = some k -> v.ownBlock = some k \/ w.heap.size <= k := by
 have hg1 : w1.heap[g]? = some (.cells (s.fill #[v]) T (0, 0)) := World.grownBy.blk hgrow ((hx.block g h.lt id).trans h.cell) (h.own.elem h.cell hne);refine ⟨HoldsS.stored hg1 hown hne, ((hx.mono fun k hk => hk.elim).grown hgrow fun k hk => .inl (.inr hk)).setCell (.inl (.inl rfl)) _, fun k hk => ?_⟩;rcases hat with h1 | h1
 ·exact .inl (by rw [<- h1]; exact hk)
 ·rw [h1] at hk; injection hk with hk; exact .inr (by have := hx.size; omega)
theorem HoldsS.setRow (h : HoldsS w g s T E v l) {b : Nat} (hb : ¬ foot g v b) (cs : Array Value) : HoldsS (w.setRow b cs) g s T E v l :=
 h.touch (S := fun k => k = b) ((Touch.refl (fun k => k = b) w).setRow (g := b) (.inl rfl) cs) fun _k hk e => hb (e ▸ hk)
end
def repHoldsS {α : Type} [Lies α] {o : Nat} (g : Nat) (s : Slot o) (T E : TypeId) : Rep (List α) where
 on w F l := ∃ v, (∀ k, F k ↔ foot g v k) /\ HoldsS w g s T E v l
 lt := by
  rintro w F l ⟨v, hF, h⟩ k hk;exact h.foot_lt k ((hF k).1 hk)
 keep := by
  rintro w w' F l ⟨v, hF, h⟩ hk;refine ⟨v, hF, ?_, h.own.keep fun k hk' => hk k ((hF k).2 (.inr hk'))⟩;rw [hk g ((hF g).2 (.inl rfl))];exact h.cell
section
variable {α : Type} [Lies α] {o : Nat} {s : Slot o} {w w' wr : World} {F : Nat -> Prop} {g : Nat} {T E : TypeId} {v v' : Value} {cs cs' : Array Value} {l l' : List α}
theorem holdsS_parts (h : (repHoldsS g s T E).on w F l) (hne : E ≠ T) : ∃ v, ((repBlock g T).and (repOwn E)).on w F (s.fill #[v], (v, l)) := by
 obtain ⟨v, hF, hh⟩ := h;refine ⟨v, fun k => k = g, fun k => v.ownBlock = some k, ⟨fun _ => Iff.rfl, hh.cell⟩, ⟨fun _ => Iff.rfl, hh.own⟩, fun k hk hg => ?_, hF⟩;subst hk;exact hh.own.elem hh.cell hne hg
theorem parts_holdsS (h : ((repBlock g T).and (repOwn E)).on w F (s.fill #[v], (v, l))) : (repHoldsS g s T E).on w F l /\ HoldsS w g s T E v l := by
 obtain ⟨F1, G, h1, h2, _, hH⟩ := h;have hh : HoldsS w g s T E v l := ⟨h1.2, h2.2⟩
 refine ⟨⟨v, fun k => (hH k).trans ⟨fun h => ?_, fun h => ?_⟩, hh⟩, hh⟩
 ·rcases h with h | h
  ·exact .inl ((h1.1 k).1 h)
  ·exact .inr ((h2.1 k).1 h)
 ·rcases h with h | h
  ·exact .inl ((h1.1 k).2 h)
  ·exact .inr ((h2.1 k).2 h)
theorem Moved.holdsS (h : Moved ((repBlock g T).and (repOwn E)) w F (s.fill #[v], (v, l)) w') : Moved (repHoldsS g s T E) w F l w' := by
 obtain ⟨F', h1, h2, h3⟩ := h;exact ⟨F', (parts_holdsS h1).1, h2, h3⟩
end
abbrev CRS (g : Nat) : Rep (Array Value × (Value × List Record)) := (repBlock g 73).and (repOwn 112)
abbrev repChestS (g o : Nat) (s : Slot o) : Rep (List Record) := repHoldsS g s 73 112
def CPostS (w : World) (g o : Nat) (s : Slot o) (F : Nat -> Prop) (r : (Answer × Int × Int) × List Record) (e : Ending) (w' : World) : Prop :=
 e = .returned (.tuple #[.agg r.1.1.cells, .int .i64 r.1.2.1, .int .i64 r.1.2.2]) /\ Moved (repChestS g o s) w F r.2 w'
theorem chest_holdsS {g o : Nat} {s : Slot o} {w wr : World} {F : Nat -> Prop} {v : Value} {l : List Record} (h : Moved (CRS g) w F (s.fill #[v], (v, l)) wr) : HoldsS wr g s 73 112 v l := by
 obtain ⟨F', h1, _⟩ := h;exact (parts_holdsS h1).2
theorem chestS_bytes (w : World) (g o : Nat) (s : Slot o) (v : Value) (L : List Record) (h : HoldsS w g s 73 112 v L) (hok : ∀ r ∈ L, RecOk r) (hlen : (logBytes L).length <= 10000) :
 Calls Tryz.prog 147 #[.pointer (some ⟨g, o, none⟩)] w (NewList w 5 (logBytes L)) := by
 obtain ⟨A0, c0, rfl, _, hcm, hr⟩ := h.own.form;have hL := log_len hok;have hlt0 := h.lt;have HR := lh hr;have HC := lh h.cell;have HOK := lh hok;clear h hr hok;go_enter Tryz.func147, Tryz.ntmps147
 go_wp2_with fail
 go_loopw [3, 4] (fun out i wr => CBytesRel w L out i wr) (fun _ i _ => L.length - (intOf i).toNat)
 case atStart => exact ⟨0, none, 0, rfl, Nat.zero_le _, rfl, (Has.none w).newList (Touch.refl _ w) (Owns.nil _ _) (fun k hk => by simp [Value.ownBlock] at hk)⟩
 case round =>
  obtain ⟨k, A1, c1, rfl, hk, rfl, hz⟩ := hrel;have HZ := lh hz;clear hz;have hc := slot_cell (HZ.out.ext.blk HC.out id);by_cases hlt : k < L.length
  ·obtain ⟨r, hx⟩ : ∃ r, L[k]? = some r := ⟨L[k], by simp [hlt]⟩
   obtain ⟨ad, rfl, hadb, hat⟩ := HR.out _ r hx;have hLV : LV Tryz.prog 112 (ad.add (k * 8)) wr = .ok (.agg r.cells) wr := LV_Record ((hat.of_same (w' := wr) (by rw [show (ad.add (k * Lies.size Record)).block = ad.block by unfold Addr.add; split <;> rfl]; exact HZ.out.ext.block _ hadb id)));have HLT := lh (logBytes_take hx);have HRO := lh (HOK.out r (List.mem_of_getElem? hx));have hrb := (recBytes_bounds HRO.out).2;have hle := logBytes_take_le L (k + 1);rw [HLT.out, List.length_append] at hle;clear hx hat
   generalize logBytes (L.take k) = M at *
   go_wp2_with (first
    | (go_at_call 146
       refine (ref_bytesOf _ r HRO.out).mono ?_;rintro e w2 ⟨A2, c2, rfl, ho2, hx2, hf2⟩;have H2 := lh (HZ.out.step hx2);have HO2 := lh ho2;clear ho2 hx2 hf2)
    | (at_builtin; refine wpList_append_own' (by rfl) (.tmp 14) (.tmp 22) 40 (by rfl) elemByte Tryz.underlying40 (v := .slice A1 M.length c1) (l := M) (by rfl) H2.out.right.owns (recBytes r) (by rfl) (M.length + (recBytes r).length) (by rfl) (by rfl) HO2.out.reads (by omega) ?_
       intro A3 c3 w3 hown3 hgrow3 hat3;have H3 := lh (H2.out.append (Touch.refl _ w2) hown3 hgrow3 hat3);clear hown3 hgrow3 hat3))
   go_roundw
   case rel => exact ⟨k + 1, A3, c3, by go_num, by omega, by rw [HLT.out, List.length_append], by rw [HLT.out, List.length_append]; exact H3.out⟩
   case measure => simp [intOf]; omega
  ·obtain rfl : k = L.length := by omega
   have hlen' := hlen;go_wp2
   go_ret
   have H4 := HZ.out;rw [List.take_length] at H4 ⊢;obtain ⟨F, hF, hf⟩ := H4.right.ex;exact ⟨A1, c1, rfl, hF.2, H4.ext, fun j hj => hf j ((hF.1 j).2 hj)⟩
theorem chestS_last_at (w : World) (g o : Nat) (s : Slot o) (v : Value) (L : List Record) (client : Int) (h : HoldsS w g s 73 112 v L) (hl : L.length <= 100000) :
 Calls Tryz.prog 145 #[.pointer (some ⟨g, o, none⟩), .int .i64 client] w fun e w' => e = .returned (.tuple #[.agg (lastRec L client).cells, .bool (lastOf L client).isSome]) /\ Ext w w' := by
 obtain ⟨A0, c0, rfl, _, hcm, hr⟩ := h.own.form;have hlt0 := h.lt;have hc := h.at0;have HR := lh hr;clear h hr;go_enter Tryz.func145, Tryz.ntmps145
 go_wp2_with fail
 have hx1 : Ext w (w.alloc (.cells Record.zero.cells 112)) := (Touch.refl _ w).alloc _;go_loop [6] (fun i => ∃ k : Nat, ∃ z : Int, i = .int .i64 z /\ z = (k : Int) - 1 /\ k <= L.length /\ lastOf L client = lastOf (L.take k) client) (fun i => (intOf i + 1).toNat)
 case atStart => exact ⟨L.length, _, rfl, rfl, Nat.le_refl _, by rw [List.take_length]⟩
 case round =>
  obtain ⟨k, z, rfl, hz, hk, hlast⟩ := hrel;have HL := lh hlast;clear hlast;by_cases hk0 : k = 0
  ·obtain rfl : z = -1 := by omega
   clear hz;subst hk0;have hno : lastOf L client = none := by rw [HL.out]; rfl
   have hre : lastRec L client = Record.zero := by unfold lastRec; rw [hno]
   go_wp2
   refine bodyPost_ret (results_cell_tmp rfl _ _ ⟨w.heap.size, 0, none⟩ (.agg (lastRec L client).cells) rfl ?_) rfl ?_
   ·rw [hre];exact load_block isRecord (heap_alloc_new _ _)
   ·exact ⟨by (try rw [hre]); (try rw [hno]); first | done | rfl, (Touch.refl _ w).alloc _⟩
  ·obtain ⟨j, rfl⟩ : ∃ j, k = j + 1 := ⟨k - 1, by omega⟩
   obtain rfl : z = (j : Int) := by omega
   clear hz;obtain ⟨r, hx⟩ : ∃ r, L[j]? = some r := ⟨L[j]'(by omega), by simp [show j < L.length by omega]⟩
   obtain ⟨ad, rfl, hadb, hat⟩ := HR.out _ r hx;have hadk : (ad.add (j * 8)).block = ad.block := by unfold Addr.add; split <;> rfl
   replace hat : At w (ad.add (j * 8)) r := hat
   have hat1 : At (w.alloc (.cells Record.zero.cells 112)) (ad.add (j * 8)) r := hat.of_same (hx1.block _ (by rw [hadk]; exact hadb) id);have hLV := LV_Record hat1;have hc0 : (w.alloc (.cells Record.zero.cells 112)).cell? (ad.add (j * 8)) = some (.int .i64 r.client) := hat1 0 _ rfl;have hjl : (j : Int) < L.length := by omega
   have HN := lh (show lastOf L client = if r.client = client then some r else lastOf (L.take j) client by rw [HL.out, take_next hx, lastOf_append]);clear hx hat hat1 hadk HL;by_cases hcl : r.client = client
   ·have hs : lastOf L client = some r := by rw [HN.out, if_pos hcl]
    have hre : lastRec L client = r := by unfold lastRec; rw [hs]
    have hb : (r.client == client) = true := by simp [hcl]
    go_wp2
    refine bodyPost_ret (results_cell_tmp rfl _ _ ⟨w.heap.size, 0, none⟩ (.agg (lastRec L client).cells) rfl ?_) rfl ?_
    ·rw [hre];exact load_block isRecord (heap_alloc_new _ _)
    ·exact ⟨by (try rw [hre]); (try rw [hs]); first | done | rfl, (Touch.refl _ w).alloc _⟩
   ·have hs := HN.out;rw [if_neg hcl] at hs;have HS := lh hs;have hb : (r.client == client) = false := by simp [hcl]
    clear hs HN;go_wp2
    go_round
    case rel => exact ⟨j, _, rfl, rfl, by omega, HS.out⟩
    case measure => simp [intOf]
theorem chestS_call_range (w : World) (g o : Nat) (s : Slot o) (F : Nat -> Prop) (L : List Record) (client no : Int) (c : Call) (h : (repChestS g o s).on w F L) (hr : client < 0 \/ 3 <= client \/ no < 1 \/ 200 < no) :
 Calls Tryz.prog 116 #[.pointer (some ⟨g, o, none⟩), .int .i64 client, .int .i64 no, .agg c.cells] w (CPostS w g o s F ((Answer.zero, 0, 9), L)) := by
 have M0 := lh (Rep.stays h);clear h;by_cases h1 : client < 0
 ·skip
  go_enter Tryz.func116, Tryz.ntmps116
  go_wp2
  refine bodyPost_ret (results_cell_tmp2 rfl _ _ ⟨w.heap.size + 1, 0, none⟩ (.agg Answer.zero.cells) rfl (load_block isAnswer (heap_alloc_at _ _ _ (by simp)))) rfl ?_;exact ⟨rfl, M0.out.behind (((Touch.refl _ w).alloc _).alloc _)⟩
 by_cases h2 : 3 <= client
 ·skip
  go_enter Tryz.func116, Tryz.ntmps116
  go_wp2
  refine bodyPost_ret (results_cell_tmp2 rfl _ _ ⟨w.heap.size + 1, 0, none⟩ (.agg Answer.zero.cells) rfl (load_block isAnswer (heap_alloc_at _ _ _ (by simp)))) rfl ?_;exact ⟨rfl, M0.out.behind (((Touch.refl _ w).alloc _).alloc _)⟩
 by_cases h3 : no < 1
 ·skip
  go_enter Tryz.func116, Tryz.ntmps116
  go_wp2
  refine bodyPost_ret (results_cell_tmp2 rfl _ _ ⟨w.heap.size + 1, 0, none⟩ (.agg Answer.zero.cells) rfl (load_block isAnswer (heap_alloc_at _ _ _ (by simp)))) rfl ?_;exact ⟨rfl, M0.out.behind (((Touch.refl _ w).alloc _).alloc _)⟩
 have h4 : 200 < no := by omega
 go_enter Tryz.func116, Tryz.ntmps116
 go_wp2
 refine bodyPost_ret (results_cell_tmp2 rfl _ _ ⟨w.heap.size + 1, 0, none⟩ (.agg Answer.zero.cells) rfl (load_block isAnswer (heap_alloc_at _ _ _ (by simp)))) rfl ?_;exact ⟨rfl, M0.out.behind (((Touch.refl _ w).alloc _).alloc _)⟩
theorem chestS_call_check (w : World) (g o : Nat) (s : Slot o) (F : Nat -> Prop) (L : List Record) (client no : Int) (c : Call) (n : Int) (h : (repChestS g o s).on w F L) (hr : ¬ (client < 0 \/ 3 <= client \/ no < 1 \/ 200 < no)) (hst : StrCall c) (hc : callCode c = n) (hn : n ≠ 0) :
 Calls Tryz.prog 116 #[.pointer (some ⟨g, o, none⟩), .int .i64 client, .int .i64 no, .agg c.cells] w (CPostS w g o s F ((Answer.zero, 0, n), L)) := by
 have hn' : (n != 0) = true := by simp [hn]
 have M0 := lh (Rep.stays h);have h1 : ¬ client < 0 := by omega
 have h2 : ¬ 3 <= client := by omega
 have h3 : ¬ no < 1 := by omega
 have h4 : ¬ 200 < no := by omega
 have HST := lh hst;have HC := lh hc;clear hst hc;go_enter Tryz.func116, Tryz.ntmps116
 go_wp2_with fail
 have m2 := (M0.out.box c.cells 66).box Answer.zero.cells 101;simp only [World.size_alloc] at m2;have M2 := lh m2;clear m2;generalize (w.alloc (.cells c.cells 66)).alloc (.cells Answer.zero.cells 101) = w2 at M2 ⊢;obtain ⟨bc, hbc⟩ : ∃ bc, w.heap.size = bc := ⟨_, rfl⟩
 obtain ⟨ba, hba⟩ : ∃ ba, w.heap.size + 1 = ba := ⟨_, rfl⟩
 have nab : (ba = bc) = False := by simp; omega
 have nba : (bc = ba) = False := by simp; omega
 rw [hba] at M2 ⊢;try rw [hba] at nsa'
 try rw [hbc] at hgb
 rw [hbc] at M2 ⊢;clear hba hbc;refine (ref_fault' w2 c n HC.out HST.out).mono ?_;rintro e w4 ⟨rfl, hx4⟩;have M4 := lh (M2.out.behind hx4);have hba4 := M4.out.blk;have hba5 := setRow_heap _ _ _ Answer.zero.cells _ _ hba4;have M5 := lh (M4.out.turnB (w' := w4.setRow ba Answer.zero.cells) ((Touch.refl (fun k => k = ba) w4).setRow (.inl rfl) _) hba5).left.left;clear hx4 M2;go_wp2
 refine bodyPost_ret (results_cell_tmp2 rfl _ _ ⟨ba, 0, none⟩ (.agg Answer.zero.cells) rfl (load_block isAnswer hba5)) rfl ?_;exact ⟨rfl, M5.out⟩
theorem chestS_call_ask (w : World) (g o : Nat) (s : Slot o) (F : Nat -> Prop) (L : List Record) (client no : Int) (c : Call) (h : (repChestS g o s).on w F L) (hL : LogOk L) (hr : ¬ (client < 0 \/ 3 <= client \/ no < 1 \/ 200 < no)) (hst : StrCall c) (hc : callCode c = 0) (hk : ¬ (1 <= c.kind /\ c.kind <= 4)) :
 Calls Tryz.prog 116 #[.pointer (some ⟨g, o, none⟩), .int .i64 client, .int .i64 no, .agg c.cells] w (CPostS w g o s F (((fdo (fbehind L) c).1, 0, 0), L)) := by
 obtain ⟨v, hS⟩ := holdsS_parts h (by decide);have M0 := lh (Rep.stays hS);obtain ⟨A, c0, rfl, _⟩ := M0.out.own3.form;have HK := lh hk;have hlen := log_len hL.each;have hlog := hL.len;have HLS := lh (show ∀ r ∈ L, StrCall r.call from fun r hr => recok_str (hL.each r hr));have HDO := lh (show (ddo (dbehind L) c).1 = (fdo (fbehind L) c).1 from (fdo_ddo (behind_srt L) c).1.symm);have hgb : g < w.heap.size := (aG M0.out.cell0).1;have nsa' : (g = w.heap.size + 1) = False := by simp; omega
 clear hS hk h hL;have h1 : ¬ client < 0 := by omega
 have h2 : ¬ 3 <= client := by omega
 have h3 : ¬ no < 1 := by omega
 have h4 : ¬ 200 < no := by omega
 have HST := lh hst;have HC := lh hc;clear hst hc;go_enter Tryz.func116, Tryz.ntmps116
 go_wp2_with fail
 have m2 := (M0.out.box c.cells 66).box Answer.zero.cells 101;simp only [World.size_alloc] at m2;have M2 := lh m2;clear m2;generalize (w.alloc (.cells c.cells 66)).alloc (.cells Answer.zero.cells 101) = w2 at M2 ⊢;obtain ⟨bc, hbc⟩ : ∃ bc, w.heap.size = bc := ⟨_, rfl⟩
 obtain ⟨ba, hba⟩ : ∃ ba, w.heap.size + 1 = ba := ⟨_, rfl⟩
 have nab : (ba = bc) = False := by simp; omega
 have nba : (bc = ba) = False := by simp; omega
 rw [hba] at M2 ⊢;try rw [hba] at nsa'
 try rw [hbc] at hgb
 rw [hbc] at M2 ⊢;clear hba hbc;refine (ref_fault' w2 c 0 HC.out HST.out).mono ?_;rintro e w3 ⟨rfl, hx3⟩;have M3 := lh (M2.out.behind hx3);have hbc3 := M3.out.left.blk;have hcc3 := cell_of hbc3 0;have hcg3 := slot_cell M3.out.left.left.cell0;replace hcg3 : w3.cell? ⟨g, o, none⟩ = some (.slice A L.length c0) := hcg3;clear hx3 M2 hgb;go_wp2_with (go_at_call 109; refine (ref_ischange' _ c.kind false (by have := HK.out; simp; omega)).mono ?_; rintro e w4 ⟨rfl, rfl⟩)
 go_region_held3 (fun w' => w'.cell? ⟨g, o, none⟩ = some (.slice A L.length c0) /\ w'.heap[bc]? = some (.cells c.cells 66 (0, 0)))
  (first | exact ⟨(cell_setRow_other _ _ _ _ _ nsa').trans hcg5, (heap_setRow' _ _ _ _ nba).trans hbc5⟩ | exact ⟨hcg5, hbc5⟩ | exact ⟨hcg4, hbc4⟩ | exact ⟨hcg3, hbc3⟩)
  (first
   | (go_at_call 71
      have m3 := M3.out.behind (Touch.drew (Touch.refl _ w3));refine (ref_behind _ w3.heap.size A _ c0 L m3.left.left.own3.reads (Nat.le_refl _) rfl HLS.out (by omega)).mono ?_;rintro e w4 ⟨gd, rfl, hd4⟩;have M4 := lh (m3.beside hd4);have hbc4 := M4.out.left.left.blk;have hcg4 : w4.cell? ⟨g, o, none⟩ = some (.slice A L.length c0) := slot_cell M4.out.left.left.left.cell0;clear m3 hd4)
   | (go_at_call 117
      obtain ⟨F5, hF5, hm5⟩ := M4.out.sndM;refine (drawer_do _ gd F5 (dbehind L) c hF5 (behind_dok L) HST.out).mono ?_;rintro e w5 ⟨rfl, hq5⟩;have M5 := lh (hm5 _ _ hq5).left;rw [HDO.out];have hbc5 := M5.out.left.blk;have hba5 := M5.out.blk;have hcg5 : w5.cell? ⟨g, o, none⟩ = some (.slice A L.length c0) := slot_cell M5.out.left.left.cell0;clear hF5 hm5 hq5 M4))
 have hba6 := setRow_heap _ _ _ (fdo (fbehind L) c).1.cells _ _ hba5;have M6 := lh (M5.out.turnB (w' := w5.setRow ba (fdo (fbehind L) c).1.cells) ((Touch.refl (fun k => k = ba) w5).setRow (.inl rfl) _) hba6).left.left;go_wp2
 refine bodyPost_ret (results_cell_tmp2 rfl _ _ ⟨ba, 0, none⟩ (.agg (fdo (fbehind L) c).1.cells) rfl (load_block isAnswer hba6)) rfl ?_;exact ⟨rfl, M6.out.holdsS⟩
theorem chestS_call_change (w : World) (g o : Nat) (s : Slot o) (F : Nat -> Prop) (L : List Record) (client no : Int) (c : Call) (h : (repChestS g o s).on w F L) (hL : LogOk L) (hr : ¬ (client < 0 \/ 3 <= client \/ no < 1 \/ 200 < no)) (hst : StrCall c) (hc : callCode c = 0) (hk : 1 <= c.kind /\ c.kind <= 4) :
 Calls Tryz.prog 116 #[.pointer (some ⟨g, o, none⟩), .int .i64 client, .int .i64 no, .agg c.cells] w (CPostS w g o s F (chestCall L client no c)) := by
 obtain ⟨v, hS⟩ := holdsS_parts h (by decide);have M0 := lh (Rep.stays hS);obtain ⟨A, c0, rfl, _⟩ := M0.out.own3.form;have HCH := lh (chestCall_change (L := L) hr hc hk);have hcok : CallOk client no c := ⟨by omega, by omega, hc⟩
 have HZ := lh (zero_ok hcok hk);have HK := lh hk;have hlen := log_len hL.each;have hlog := hL.len;have hrb := (recBytes_bounds HZ.out).2;have HEACH := lh hL.each;have HLS := lh (show ∀ r ∈ L, StrCall r.call from fun r hr => recok_str (hL.each r hr));have HDO := lh (show (ddo (dbehind L) c).1 = (fdo (fbehind L) c).1 from (fdo_ddo (behind_srt L) c).1.symm);have hgb : g < w.heap.size := (aG M0.out.cell0).1;have nsa' : (g = w.heap.size + 1) = False := by simp; omega
 clear hS hk h hL hcok;have h1 : ¬ client < 0 := by omega
 have h2 : ¬ 3 <= client := by omega
 have h3 : ¬ no < 1 := by omega
 have h4 : ¬ 200 < no := by omega
 have HST := lh hst;have HC := lh hc;clear hst hc;go_enter Tryz.func116, Tryz.ntmps116
 go_wp2_with fail
 have m2 := (M0.out.box c.cells 66).box Answer.zero.cells 101;simp only [World.size_alloc] at m2;have M2 := lh m2;clear m2;generalize (w.alloc (.cells c.cells 66)).alloc (.cells Answer.zero.cells 101) = w2 at M2 ⊢;obtain ⟨bc, hbc⟩ : ∃ bc, w.heap.size = bc := ⟨_, rfl⟩
 obtain ⟨ba, hba⟩ : ∃ ba, w.heap.size + 1 = ba := ⟨_, rfl⟩
 have nab : (ba = bc) = False := by simp; omega
 have nba : (bc = ba) = False := by simp; omega
 rw [hba] at M2 ⊢;try rw [hba] at nsa'
 try rw [hbc] at hgb
 rw [hbc] at M2 ⊢;clear hba hbc;refine (ref_fault' w2 c 0 HC.out HST.out).mono ?_;rintro e w3 ⟨rfl, hx3⟩;have M3 := lh (M2.out.behind hx3);have hbc3 := M3.out.left.blk;have hcc3 := cell_of hbc3 0;clear hx3 M2;go_wp2_with (go_at_call 109; refine (ref_ischange' _ c.kind true (by have := HK.out; simp; omega)).mono ?_; rintro e w4 ⟨rfl, rfl⟩)
 refine (chestS_last_at w3 g o s _ L client (chest_holdsS M3.out.left.left) (by omega)).mono ?_;rintro e w4 ⟨rfl, hx4⟩;have M4 := lh (M3.out.behind hx4);have hbc4 := M4.out.left.blk;have hba4 := M4.out.blk;have hbg4 := M4.out.left.left.cell0;obtain ⟨ltc, _⟩ := aG hbc4;obtain ⟨lta, _⟩ := aG hba4;obtain ⟨ltg, _⟩ := aG hbg4;obtain ⟨X, hX⟩ : ∃ X, lastRec L client = X := ⟨_, rfl⟩
 rw [hX];clear hx4 M3 hbc3 hcc3 hgb hbg4;cases hlo : lastOf L client with
 | none =>
   have HP := lh (show chestCall L client no c = chestNew L client no c by rw [HCH.out, hlo]);clear hlo hX HCH;go_wp2_with fail
   have m5 := (M4.out.behind ((Touch.refl _ w4).alloc (.cells X.cells 112))).box (Record.cells ⟨client, no, c, Answer.zero⟩) 112;simp only [World.size_alloc] at m5;have M5 := lh m5;clear m5;generalize (w4.alloc (.cells X.cells 112)).alloc (.cells (Record.cells ⟨client, no, c, Answer.zero⟩) 112) = w5 at M5 ⊢;obtain ⟨br, hbr⟩ : ∃ br, w4.heap.size + 1 = br := ⟨_, rfl⟩
   have nbr1 : (bc = br) = False := by simp; omega
   have nbr2 : (g = br) = False := by simp; omega
   have nbr3 : (ba = br) = False := by simp; omega
   have nbr4 : (br = ba) = False := by simp; omega
   have nbr5 : (br = g) = False := by simp; omega
   rw [hbr] at M5 ⊢;clear hbr;refine (ref_bytesOf _ ⟨client, no, c, Answer.zero⟩ HZ.out).mono ?_;rintro e w6 ⟨A6, c6, rfl, ho6, hx6, hf6⟩;have M6 := lh (M5.out.behind hx6);clear ho6 hx6 hf6 M5;go_wp2_with fail
   refine (chestS_bytes w6 g o s _ L (chest_holdsS M6.out.left.left.left) HEACH.out (by omega)).mono ?_;rintro e w7 ⟨A7, c7, rfl, ho7, hx7, hf7⟩;have M7 := lh (M6.out.behind hx7);clear ho7 hx7 hf7 M6;have hba7 := M7.out.left.blk;by_cases hfull : 2000 < (logBytes L).length + (recBytes ⟨client, no, c, Answer.zero⟩).length
   ·have hfull' : (2000 : Int) < ((logBytes L).length : Int) + ((recBytes ⟨client, no, c, Answer.zero⟩).length : Int) := by omega
    have hba8 := setRow_heap _ _ _ Answer.zero.cells _ _ hba7;have M8 := lh ((M7.out.exch.turnB (w' := w7.setRow ba Answer.zero.cells) ((Touch.refl (fun k => k = ba) w7).setRow (.inl rfl) _) hba8).left.left.left.holdsS);go_wp2
    refine bodyPost_ret (results_cell_tmp2 rfl _ _ ⟨ba, 0, none⟩ (.agg Answer.zero.cells) rfl (load_block isAnswer hba8)) rfl ?_;unfold CPostS;rw [HP.out, chestNew_full hfull];exact ⟨rfl, M8.out⟩
   ·have hroom : ¬ (2000 : Int) < ((logBytes L).length : Int) + ((recBytes ⟨client, no, c, Answer.zero⟩).length : Int) := by omega
    have hbc7 := M7.out.left.left.blk;have hcg7 : w7.cell? ⟨g, o, none⟩ = some (.slice A L.length c0) := slot_cell M7.out.left.left.left.cell0;go_wp2_with fail
    go_region_held3 (fun w' => w'.cell? ⟨g, o, none⟩ = some (.slice A L.length c0) /\ w'.heap[bc]? = some (.cells c.cells 66 (0, 0)))
     (first | exact ⟨(cell_setRow_other _ _ _ _ _ nbr2).trans hcg9, (heap_setRow' _ _ _ _ nbr1).trans hbc9⟩ | exact ⟨hcg9, hbc9⟩ | exact ⟨hcg8, hbc8⟩ | exact ⟨hcg7, hbc7⟩)
     (first
      | (go_at_call 71
         have m7 := M7.out.behind (Touch.drew (Touch.refl _ w7));refine (ref_behind _ w7.heap.size A _ c0 L m7.left.left.left.own3.reads (Nat.le_refl _) rfl HLS.out (by omega)).mono ?_;rintro e w8 ⟨gd, rfl, hd8⟩;have M8 := lh (m7.beside hd8);have hbc8 := M8.out.left.left.left.blk;have hcg8 : w8.cell? ⟨g, o, none⟩ = some (.slice A L.length c0) := slot_cell M8.out.left.left.left.left.cell0;clear m7 hd8)
      | (go_at_call 117
         obtain ⟨F9, hF9, hm9⟩ := M8.out.sndM;refine (drawer_do _ gd F9 (dbehind L) c hF9 (behind_dok L) HST.out).mono ?_;rintro e w9 ⟨rfl, hq9⟩;have M9 := lh (hm9 _ _ hq9).left;rw [HDO.out];have hbc9 := M9.out.left.left.blk;have hbr9 := M9.out.blk;have hcg9 : w9.cell? ⟨g, o, none⟩ = some (.slice A L.length c0) := slot_cell M9.out.left.left.left.cell0;clear hF9 hm9 hq9 M8))
    have hbr10 := setRow_heap _ _ _ (Record.cells ⟨client, no, c, (fdo (fbehind L) c).1⟩) _ _ hbr9;have M10 := lh (M9.out.turnB (w' := w9.setRow br (Record.cells ⟨client, no, c, (fdo (fbehind L) c).1⟩)) ((Touch.refl (fun k => k = br) w9).setRow (.inl rfl) _) hbr10);generalize w9.setRow br (Record.cells ⟨client, no, c, (fdo (fbehind L) c).1⟩) = w10 at M10 hbr10 ⊢;have hcg10 : w10.cell? ⟨g, o, none⟩ = some (.slice A L.length c0) := slot_cell M10.out.left.left.left.cell0;obtain ⟨ltg10, _⟩ := aG M10.out.left.left.left.cell0;obtain ⟨ltr10, _⟩ := aG hbr10;clear M9 hbc9 hbr9 hcg9 hcg7 hbc7 M7 hba7;go_wp2_with fail
    go_region_law (
     (refine step_append_own (by rfl) (.tmp 98) (.tmp 100) 62 (by rfl) elemRecord Tryz.underlying62 (v := .slice A L.length c0) (l := L) (by rfl) (M10.out.left.left.left.own3.ext (by first | exact ((Touch.refl _ w10).drew).alloc _ | exact ((Touch.refl _ w10).alloc _).drew | exact (Touch.refl _ w10).alloc _)) [⟨client, no, c, (fdo (fbehind L) c).1⟩] (by rfl) (L.length + 1) (by rfl) (by rfl) (reads_block (x := (⟨client, no, c, (fdo (fbehind L) c).1⟩ : Record)) (t := 112) (fr := (0, 0)) (b := w10.heap.size) (by first | exact heap_alloc_new _ _ | (simp only [heap_alloc_at, heap_drew', heap_drewN', World.size_alloc]; rfl)) (w10.heap.size + 1) (by omega)) (by simp; omega) ?_
      intro A11 c11 w11 hown11 hgrow11 hat11;obtain ⟨F11, hF11, hm11⟩ := M10.out.sr4;have M11 := lh (hm11 _ _ ((Rep.stays hF11).append (by first | exact ((Touch.refl _ w10).drew).alloc _ | exact ((Touch.refl _ w10).alloc _).drew | exact (Touch.refl _ w10).alloc _) hown11 hgrow11 hat11));have hbg11 := M11.out.left.left.left.cell0;have hcg11 := slot_cell hbg11;have hfg11 := frozen_of hbg11 o;clear hown11 hgrow11 hat11 hF11 hm11))
    all_goals
     have hbg12 : (w11.setCell ⟨g, o, none⟩ (.slice A11 (L.length + 1) c11)).heap[g]? = some (.cells (s.fill #[.slice A11 (L.length + 1) c11]) 73 (0, 0)) := slot_put hbg11 _;obtain ⟨F12, hF12, hm12⟩ := M11.out.sr4;have M12 := lh (hm12 _ _ ((Rep.stays hF12).turn0 (w' := w11.setCell ⟨g, o, none⟩ (.slice A11 (L.length + 1) c11)) ((Touch.refl (fun k => k = g) w11).setCell (a := ⟨g, o, none⟩) (.inl rfl) _) hbg12));clear hF12 hm12 M11 hbg11 hcg11 hfg11 hbg12;generalize w11.setCell ⟨g, o, none⟩ (.slice A11 (L.length + 1) c11) = w12 at M12 ⊢;have hbr12 := M12.out.blk;have hba12 := M12.out.left.blk;have hba13 := setRow_heap _ _ _ (fdo (fbehind L) c).1.cells _ _ hba12;have M13 := lh ((M12.out.exch.turnB (w' := w12.setRow ba (fdo (fbehind L) c).1.cells) ((Touch.refl (fun k => k = ba) w12).setRow (.inl rfl) _) hba13).left.left.left.holdsS);go_wp2
     refine bodyPost_ret (results_cell_tmp2 rfl _ _ ⟨ba, 0, none⟩ (.agg (fdo (fbehind L) c).1.cells) rfl (load_block isAnswer hba13)) rfl ?_;unfold CPostS;rw [HP.out, chestNew_room hfull];exact ⟨rfl, M13.out⟩
 | some x =>
   obtain rfl : X = x := by rw [<- hX]; unfold lastRec; rw [hlo]
   have HCL := lh (show chestCall L client no c = if no = X.no /\ c = X.call then ((X.answer, 0, 0), L) else if no <= X.no then ((Answer.zero, 0, 10), L) else chestNew L client no c by rw [HCH.out, hlo]);clear hlo hX HCH;by_cases e1 : no = X.no
   ·have e1' : (no == X.no) = true := by simp [e1]
    by_cases e2 : c = X.call
    ·have HP := lh (show chestCall L client no c = ((X.answer, 0, 0), L) by rw [HCL.out, if_pos ⟨e1, e2⟩]);have e2' : (c = X.call) = True := eq_true e2;clear e1 e2;have hba44 := setRow_heap _ _ _ (X.answer).cells _ _ hba4;have M5 := lh (((M4.out.turnB (w' := w4.setRow ba (X.answer).cells) ((Touch.refl (fun k => k = ba) w4).setRow (.inl rfl) _) hba44).left.left.behind ((Touch.refl _ _).alloc (.cells X.cells 112))).holdsS)
     have hba5 : ((w4.setRow ba (X.answer).cells).alloc (.cells X.cells 112)).heap[ba]? = some (.cells (X.answer).cells 101 (0, 0)) := by
      rw [heap_alloc_past _ _ _ (by simp; omega)];exact hba44
     go_wp2
     refine bodyPost_ret (results_cell_tmp2 rfl _ _ ⟨ba, 0, none⟩ (.agg (X.answer).cells) rfl (load_block isAnswer hba5)) rfl ?_;unfold CPostS;rw [HP.out];exact ⟨rfl, M5.out⟩
    ·have HP := lh (show chestCall L client no c = ((Answer.zero, 0, 10), L) by rw [HCL.out, if_neg (fun h => e2 h.2), if_pos (by omega)]);have e2' : (c = X.call) = False := eq_false e2;have e3 : no <= X.no := by omega
     clear e1 e2;have hba44 := setRow_heap _ _ _ (Answer.zero).cells _ _ hba4;have M5 := lh (((M4.out.turnB (w' := w4.setRow ba (Answer.zero).cells) ((Touch.refl (fun k => k = ba) w4).setRow (.inl rfl) _) hba44).left.left.behind ((Touch.refl _ _).alloc (.cells X.cells 112))).holdsS)
     have hba5 : ((w4.setRow ba (Answer.zero).cells).alloc (.cells X.cells 112)).heap[ba]? = some (.cells (Answer.zero).cells 101 (0, 0)) := by
      rw [heap_alloc_past _ _ _ (by simp; omega)];exact hba44
     go_wp2
     refine bodyPost_ret (results_cell_tmp2 rfl _ _ ⟨ba, 0, none⟩ (.agg (Answer.zero).cells) rfl (load_block isAnswer hba5)) rfl ?_;unfold CPostS;rw [HP.out];exact ⟨rfl, M5.out⟩
   ·have e1' : (no == X.no) = false := by simp [e1]
    by_cases e3 : no <= X.no
    ·have HP := lh (show chestCall L client no c = ((Answer.zero, 0, 10), L) by rw [HCL.out, if_neg (fun h => e1 h.1), if_pos e3]);clear e1;have hba44 := setRow_heap _ _ _ (Answer.zero).cells _ _ hba4;have M5 := lh (((M4.out.turnB (w' := w4.setRow ba (Answer.zero).cells) ((Touch.refl (fun k => k = ba) w4).setRow (.inl rfl) _) hba44).left.left.behind ((Touch.refl _ _).alloc (.cells X.cells 112))).holdsS)
     have hba5 : ((w4.setRow ba (Answer.zero).cells).alloc (.cells X.cells 112)).heap[ba]? = some (.cells (Answer.zero).cells 101 (0, 0)) := by
      rw [heap_alloc_past _ _ _ (by simp; omega)];exact hba44
     go_wp2
     refine bodyPost_ret (results_cell_tmp2 rfl _ _ ⟨ba, 0, none⟩ (.agg (Answer.zero).cells) rfl (load_block isAnswer hba5)) rfl ?_;unfold CPostS;rw [HP.out];exact ⟨rfl, M5.out⟩
    ·have HP := lh (show chestCall L client no c = chestNew L client no c by rw [HCL.out, if_neg (fun h => e1 h.1), if_neg e3]);clear e1;go_wp2_with fail
     have m5 := (M4.out.behind ((Touch.refl _ w4).alloc (.cells X.cells 112))).box (Record.cells ⟨client, no, c, Answer.zero⟩) 112;simp only [World.size_alloc] at m5;have M5 := lh m5;clear m5;generalize (w4.alloc (.cells X.cells 112)).alloc (.cells (Record.cells ⟨client, no, c, Answer.zero⟩) 112) = w5 at M5 ⊢;obtain ⟨br, hbr⟩ : ∃ br, w4.heap.size + 1 = br := ⟨_, rfl⟩
     have nbr1 : (bc = br) = False := by simp; omega
     have nbr2 : (g = br) = False := by simp; omega
     have nbr3 : (ba = br) = False := by simp; omega
     have nbr4 : (br = ba) = False := by simp; omega
     have nbr5 : (br = g) = False := by simp; omega
     rw [hbr] at M5 ⊢;clear hbr;refine (ref_bytesOf _ ⟨client, no, c, Answer.zero⟩ HZ.out).mono ?_;rintro e w6 ⟨A6, c6, rfl, ho6, hx6, hf6⟩;have M6 := lh (M5.out.behind hx6);clear ho6 hx6 hf6 M5;go_wp2_with fail
     refine (chestS_bytes w6 g o s _ L (chest_holdsS M6.out.left.left.left) HEACH.out (by omega)).mono ?_;rintro e w7 ⟨A7, c7, rfl, ho7, hx7, hf7⟩;have M7 := lh (M6.out.behind hx7);clear ho7 hx7 hf7 M6;have hba7 := M7.out.left.blk;by_cases hfull : 2000 < (logBytes L).length + (recBytes ⟨client, no, c, Answer.zero⟩).length
     ·have hfull' : (2000 : Int) < ((logBytes L).length : Int) + ((recBytes ⟨client, no, c, Answer.zero⟩).length : Int) := by omega
      have hba8 := setRow_heap _ _ _ Answer.zero.cells _ _ hba7;have M8 := lh ((M7.out.exch.turnB (w' := w7.setRow ba Answer.zero.cells) ((Touch.refl (fun k => k = ba) w7).setRow (.inl rfl) _) hba8).left.left.left.holdsS);go_wp2
      refine bodyPost_ret (results_cell_tmp2 rfl _ _ ⟨ba, 0, none⟩ (.agg Answer.zero.cells) rfl (load_block isAnswer hba8)) rfl ?_;unfold CPostS;rw [HP.out, chestNew_full hfull];exact ⟨rfl, M8.out⟩
     ·have hroom : ¬ (2000 : Int) < ((logBytes L).length : Int) + ((recBytes ⟨client, no, c, Answer.zero⟩).length : Int) := by omega
      have hbc7 := M7.out.left.left.blk;have hcg7 : w7.cell? ⟨g, o, none⟩ = some (.slice A L.length c0) := slot_cell M7.out.left.left.left.cell0;go_wp2_with fail
      go_region_held3 (fun w' => w'.cell? ⟨g, o, none⟩ = some (.slice A L.length c0) /\ w'.heap[bc]? = some (.cells c.cells 66 (0, 0)))
       (first | exact ⟨(cell_setRow_other _ _ _ _ _ nbr2).trans hcg9, (heap_setRow' _ _ _ _ nbr1).trans hbc9⟩ | exact ⟨hcg9, hbc9⟩ | exact ⟨hcg8, hbc8⟩ | exact ⟨hcg7, hbc7⟩)
       (first
        | (go_at_call 71
           have m7 := M7.out.behind (Touch.drew (Touch.refl _ w7));refine (ref_behind _ w7.heap.size A _ c0 L m7.left.left.left.own3.reads (Nat.le_refl _) rfl HLS.out (by omega)).mono ?_;rintro e w8 ⟨gd, rfl, hd8⟩;have M8 := lh (m7.beside hd8);have hbc8 := M8.out.left.left.left.blk;have hcg8 : w8.cell? ⟨g, o, none⟩ = some (.slice A L.length c0) := slot_cell M8.out.left.left.left.left.cell0;clear m7 hd8)
        | (go_at_call 117
           obtain ⟨F9, hF9, hm9⟩ := M8.out.sndM;refine (drawer_do _ gd F9 (dbehind L) c hF9 (behind_dok L) HST.out).mono ?_;rintro e w9 ⟨rfl, hq9⟩;have M9 := lh (hm9 _ _ hq9).left;rw [HDO.out];have hbc9 := M9.out.left.left.blk;have hbr9 := M9.out.blk;have hcg9 : w9.cell? ⟨g, o, none⟩ = some (.slice A L.length c0) := slot_cell M9.out.left.left.left.cell0;clear hF9 hm9 hq9 M8))
      have hbr10 := setRow_heap _ _ _ (Record.cells ⟨client, no, c, (fdo (fbehind L) c).1⟩) _ _ hbr9;have M10 := lh (M9.out.turnB (w' := w9.setRow br (Record.cells ⟨client, no, c, (fdo (fbehind L) c).1⟩)) ((Touch.refl (fun k => k = br) w9).setRow (.inl rfl) _) hbr10);generalize w9.setRow br (Record.cells ⟨client, no, c, (fdo (fbehind L) c).1⟩) = w10 at M10 hbr10 ⊢;have hcg10 : w10.cell? ⟨g, o, none⟩ = some (.slice A L.length c0) := slot_cell M10.out.left.left.left.cell0;obtain ⟨ltg10, _⟩ := aG M10.out.left.left.left.cell0;obtain ⟨ltr10, _⟩ := aG hbr10;clear M9 hbc9 hbr9 hcg9 hcg7 hbc7 M7 hba7;go_wp2_with fail
      go_region_law (
       (refine step_append_own (by rfl) (.tmp 98) (.tmp 100) 62 (by rfl) elemRecord Tryz.underlying62 (v := .slice A L.length c0) (l := L) (by rfl) (M10.out.left.left.left.own3.ext (by first | exact ((Touch.refl _ w10).drew).alloc _ | exact ((Touch.refl _ w10).alloc _).drew | exact (Touch.refl _ w10).alloc _)) [⟨client, no, c, (fdo (fbehind L) c).1⟩] (by rfl) (L.length + 1) (by rfl) (by rfl) (reads_block (x := (⟨client, no, c, (fdo (fbehind L) c).1⟩ : Record)) (t := 112) (fr := (0, 0)) (b := w10.heap.size) (by first | exact heap_alloc_new _ _ | (simp only [heap_alloc_at, heap_drew', heap_drewN', World.size_alloc]; rfl)) (w10.heap.size + 1) (by omega)) (by simp; omega) ?_
        intro A11 c11 w11 hown11 hgrow11 hat11;obtain ⟨F11, hF11, hm11⟩ := M10.out.sr4;have M11 := lh (hm11 _ _ ((Rep.stays hF11).append (by first | exact ((Touch.refl _ w10).drew).alloc _ | exact ((Touch.refl _ w10).alloc _).drew | exact (Touch.refl _ w10).alloc _) hown11 hgrow11 hat11));have hbg11 := M11.out.left.left.left.cell0;have hcg11 := slot_cell hbg11;have hfg11 := frozen_of hbg11 o;clear hown11 hgrow11 hat11 hF11 hm11))
      all_goals
       have hbg12 : (w11.setCell ⟨g, o, none⟩ (.slice A11 (L.length + 1) c11)).heap[g]? = some (.cells (s.fill #[.slice A11 (L.length + 1) c11]) 73 (0, 0)) := slot_put hbg11 _;obtain ⟨F12, hF12, hm12⟩ := M11.out.sr4;have M12 := lh (hm12 _ _ ((Rep.stays hF12).turn0 (w' := w11.setCell ⟨g, o, none⟩ (.slice A11 (L.length + 1) c11)) ((Touch.refl (fun k => k = g) w11).setCell (a := ⟨g, o, none⟩) (.inl rfl) _) hbg12));clear hF12 hm12 M11 hbg11 hcg11 hfg11 hbg12;generalize w11.setCell ⟨g, o, none⟩ (.slice A11 (L.length + 1) c11) = w12 at M12 ⊢;have hbr12 := M12.out.blk;have hba12 := M12.out.left.blk;have hba13 := setRow_heap _ _ _ (fdo (fbehind L) c).1.cells _ _ hba12;have M13 := lh ((M12.out.exch.turnB (w' := w12.setRow ba (fdo (fbehind L) c).1.cells) ((Touch.refl (fun k => k = ba) w12).setRow (.inl rfl) _) hba13).left.left.left.holdsS);go_wp2
       refine bodyPost_ret (results_cell_tmp2 rfl _ _ ⟨ba, 0, none⟩ (.agg (fdo (fbehind L) c).1.cells) rfl (load_block isAnswer hba13)) rfl ?_;unfold CPostS;rw [HP.out, chestNew_room hfull];exact ⟨rfl, M13.out⟩
theorem chestS_call (w : World) (g o : Nat) (s : Slot o) (F : Nat -> Prop) (L : List Record) (client no : Int) (c : Call) (h : (repChestS g o s).on w F L) (hL : LogOk L) (hst : StrCall c) :
 Calls Tryz.prog 116 #[.pointer (some ⟨g, o, none⟩), .int .i64 client, .int .i64 no, .agg c.cells] w (CPostS w g o s F (chestCall L client no c)) := by
 by_cases hr : client < 0 \/ 3 <= client \/ no < 1 \/ 200 < no
 ·rw [chestCall_range hr];exact chestS_call_range w g o s F L client no c h hr
 by_cases hc : callCode c = 0
 ·by_cases hk : 1 <= c.kind /\ c.kind <= 4
  ·exact chestS_call_change w g o s F L client no c h hL hr hst hc hk
  ·rw [chestCall_ask hr hc hk];exact chestS_call_ask w g o s F L client no c h hL hr hst hc hk
 ·rw [chestCall_check hr hc];exact chestS_call_check w g o s F L client no c _ h hr hst rfl hc
def TearS (w : World) (g o : Nat) (s : Slot o) (F : Nat -> Prop) (r : Int × List Record) (e : Ending) (w' : World) : Prop :=
 e = .returned (.int .i64 r.1) /\ Moved (repChestS g o s) w F r.2 w'
theorem chestS_tear_no (w : World) (g o : Nat) (s : Slot o) (F : Nat -> Prop) (L : List Record) (client no : Int) (c : Call) (keep : Int) (h : (repChestS g o s).on w F L) (hL : LogOk L) (hst : StrCall c)
 (hno : ¬ ((chestCall L client no c).1.2.2 = 0 /\ 0 < (chestCall L client no c).1.2.1 /\ keep < (chestCall L client no c).1.2.1)) :
 Calls Tryz.prog 113 #[.pointer (some ⟨g, o, none⟩), .int .i64 client, .int .i64 no, .agg c.cells, .int .i64 keep] w (TearS w g o s F (chestTear L client no c keep)) := by
 have HT := lh (show chestTear L client no c keep = ((chestCall L client no c).1.2.2, (chestCall L client no c).2) by unfold chestTear; rw [if_neg hno]);have M0 := lh (Rep.stays h);have HL := lh hL;have HST := lh hst;clear h hL hst;go_enter Tryz.func113, Tryz.ntmps113
 go_wp2_with fail
 have M2 := lh (M0.out.behind ((Touch.refl _ w).alloc (.cells c.cells 66)));generalize w.alloc (.cells c.cells 66) = w2 at M2 ⊢;obtain ⟨F2, hF2, hm2⟩ := M2.out.opened;refine (chestS_call w2 g o s F2 L client no c hF2 HL.out HST.out).mono ?_;rintro e w3 ⟨rfl, hq3⟩;have M3 := lh (hm2 _ _ hq3);clear hF2 hm2 hq3 M2;generalize chestCall L client no c = R at *;have M4 := lh (M3.out.behind ((Touch.refl _ w3).alloc (.cells R.1.1.cells 101)));by_cases e1 : R.1.2.2 = 0
 ·have e1' : (R.1.2.2 == 0) = true := by simp [e1]
  by_cases e2 : 0 < R.1.2.1
  ·have e3 : ¬ keep < R.1.2.1 := fun h => hno ⟨e1, e2, h⟩;go_wp2
   go_ret
   unfold TearS;rw [HT.out];exact ⟨by rw [e1]; rfl, M4.out⟩
  ·go_wp2
   go_ret
   unfold TearS;rw [HT.out];exact ⟨by rw [e1]; rfl, M4.out⟩
 ·have e1' : (R.1.2.2 == 0) = false := by simp [e1]
  go_wp2
  go_ret
  unfold TearS;rw [HT.out];exact ⟨rfl, M4.out⟩
theorem chestS_tear_yes (w : World) (g o : Nat) (s : Slot o) (F : Nat -> Prop) (L : List Record) (client no : Int) (c : Call) (keep : Int) (h : (repChestS g o s).on w F L) (hL : LogOk L) (hst : StrCall c)
 (e1 : (chestCall L client no c).1.2.2 = 0) (e2 : 0 < (chestCall L client no c).1.2.1) (e3 : keep < (chestCall L client no c).1.2.1) :
 Calls Tryz.prog 113 #[.pointer (some ⟨g, o, none⟩), .int .i64 client, .int .i64 no, .agg c.cells, .int .i64 keep] w (TearS w g o s F (chestTear L client no c keep)) := by
 have HT := lh (show chestTear L client no c keep = (0, L) by unfold chestTear; rw [if_pos ⟨e1, e2, e3⟩, e1]);obtain ⟨r, hr⟩ := tear_snoc e2;have HR := lh hr;have hlen : L.length <= 10000 := by have h1 := log_len hL.each; have h2 := hL.len; omega
 have M0 := lh (Rep.stays h);have HL := lh hL;have HST := lh hst;clear h hL hst;go_enter Tryz.func113, Tryz.ntmps113
 go_wp2_with fail
 have M2 := lh (M0.out.behind ((Touch.refl _ w).alloc (.cells c.cells 66)));generalize w.alloc (.cells c.cells 66) = w2 at M2 ⊢;obtain ⟨F2, hF2, hm2⟩ := M2.out.opened;refine (chestS_call w2 g o s F2 L client no c hF2 HL.out HST.out).mono ?_;rintro e w3 ⟨rfl, hq3⟩;have M3 := lh (hm2 _ _ hq3);clear hF2 hm2 hq3 M2;rw [hr] at M3;obtain ⟨a, ha⟩ : ∃ a, (chestCall L client no c).1.1 = a := ⟨_, rfl⟩
 obtain ⟨n, hn⟩ : ∃ n, (chestCall L client no c).1.2.1 = n := ⟨_, rfl⟩
 rw [hn] at e2 e3;rw [ha, hn, e1];clear ha hn e1 hr;obtain ⟨F3, hF3, hm3⟩ := M3.out.opened;obtain ⟨v, hS3⟩ := holdsS_parts hF3 (by decide);have m3 := Rep.stays hS3;obtain ⟨A, c0, rfl, hcc, hcm, _⟩ := m3.own3.form;have hll : (L ++ [r]).length = L.length + 1 := by simp
 rw [hll] at hS3 m3 hcc;have M3a := lh m3;have HM3 := lh hm3;clear hS3 m3 hm3 hF3 M3 hll;have M4 := lh (M3a.out.behind ((Touch.refl _ w3).alloc (.cells a.cells 101)));have hbg4 := M4.out.cell0;obtain ⟨lt4, at4⟩ := aG hbg4;have hcg4 : (w3.alloc (.cells a.cells 101)).cell? ⟨g, o, none⟩ = some (.slice A (L.length + 1) c0) := slot_cell hbg4;have hfr4 := frozen_of hbg4 o;have hbg5 : ((w3.alloc (.cells a.cells 101)).setCell ⟨g, o, none⟩ (.slice A L.length c0)).heap[g]? = some (.cells (s.fill #[.slice A L.length c0]) 73 (0, 0)) := slot_put hbg4 _;have m5 := ((M4.out.turn0 (w' := (w3.alloc (.cells a.cells 101)).setCell ⟨g, o, none⟩ (.slice A L.length c0)) ((Touch.refl (fun k => k = g) _).setCell (a := ⟨g, o, none⟩) (.inl rfl) _) hbg5).upto L.length (by simp)).behind (Touch.drew (Touch.refl _ _));rw [List.take_left] at m5;have M5 := lh (HM3.out _ _ m5.holdsS);have hsub : ((L.length : Int) + 1) - 1 = (L.length : Int) := by omega
 have hsub2 : ((L.length + 1 : Nat) : Int) - 1 = (L.length : Int) := by omega
 have hc0 : (L.length : Int) <= c0 := by omega
 clear hbg5 m5;go_wp2_with fail
 generalize w3.alloc (.cells a.cells 101) = w4 at M4 M5 hbg4 lt4 at4 hcg4 hfr4 ⊢;go_region
 all_goals
  go_wp2
  go_ret
  unfold TearS;rw [HT.out];exact ⟨rfl, M5.out⟩
theorem chestS_tear (w : World) (g o : Nat) (s : Slot o) (F : Nat -> Prop) (L : List Record) (client no : Int) (c : Call) (keep : Int) (h : (repChestS g o s).on w F L) (hL : LogOk L) (hst : StrCall c) :
 Calls Tryz.prog 113 #[.pointer (some ⟨g, o, none⟩), .int .i64 client, .int .i64 no, .agg c.cells, .int .i64 keep] w (TearS w g o s F (chestTear L client no c keep)) := by
 by_cases hcut : (chestCall L client no c).1.2.2 = 0 /\ 0 < (chestCall L client no c).1.2.1 /\ keep < (chestCall L client no c).1.2.1
 ·exact chestS_tear_yes w g o s F L client no c keep h hL hst hcut.1 hcut.2.1 hcut.2.2
 ·exact chestS_tear_no w g o s F L client no c keep h hL hst hcut
section
variable {o : Nat} (s : Slot o) (x : Guest) (v : Value)
@[go_sem, simp] theorem gs_get0 : (s.fill (x.cells v))[o]? = some (.int .i64 x.me) := by rw [s.get0 _ (by simp), Guest.get0]
@[go_sem, simp] theorem gs_get1 : (s.fill (x.cells v))[o + 1]? = some (.int .i64 x.no) := by rw [s.get _ (by simp), Guest.get1]
@[go_sem, simp] theorem gs_get6 : (s.fill (x.cells v))[o + 6]? = some (.bool x.isOpen) := by rw [s.get _ (by simp), Guest.get6]
@[go_sem, simp] theorem gs_get7 : (s.fill (x.cells v))[o + 7]? = some v := by rw [s.get _ (by simp), Guest.get7]
@[go_sem] theorem gs_set1 (n : Int) : (s.fill (x.cells v)).setIfInBounds (o + 1) (.int .i64 n) = s.fill (Guest.cells { x with no := n } v) := by rw [s.set _ (by simp), Guest.set1]
@[go_sem] theorem gs_set6 (b : Bool) : (s.fill (x.cells v)).setIfInBounds (o + 6) (.bool b) = s.fill (Guest.cells { x with isOpen := b } v) := by rw [s.set _ (by simp), Guest.set6]
theorem gs_set7 (u : Value) : (s.fill (x.cells v)).setIfInBounds (o + 7) u = s.fill (x.cells u) := by rw [s.set _ (by simp), Guest.set7]
theorem gs_splice (c : Call) : splice (s.fill (x.cells v)) c.cells (o + 2) = s.fill (Guest.cells { x with call := c } v) := by rw [s.splice _ _ (by simp), Guest.splice_call]
@[go_sem high] theorem gs_call (T : TypeId) (fr : Nat × Nat) : objPart (o + 2) 4 (some (.cells (s.fill (x.cells v)) T fr)) = some x.call.cells := by
  rw [objPart_cells _ _ _ _ _ (by rw [s.len]; simp; omega)];have := s.part (x.cells v) (j := 2) (n := 4) (by simp);rw [show o + 2 + 4 = o + (2 + 4) from rfl, this];exact congrArg some (Guest.ext_call x v)
@[go_sem high] theorem gs_put (P : Program) (ty : TypeId) (b : Nat) (c : Call) (w : World) (T : TypeId) : SVo P ty 4 b (o + 2) c.cells w (some (.cells (s.fill (x.cells v)) T (0, 0))) = .ok () (w.setRow b (s.fill (Guest.cells { x with call := c } v))) := by
  rw [SVo_cells _ _ _ _ _ _ _ _ _ (by rw [s.len]; simp; omega), gs_splice]
end
structure GuestS {o : Nat} (w : World) (g : Nat) (s : Slot o) (v : Value) (x : Guest) : Prop where
 cell : w.heap[g]? = some (.cells (s.fill (x.cells v)) 73 (0, 0))
 own : Owns w 112 v x.done
theorem GuestS.lt {o : Nat} {w : World} {g : Nat} {s : Slot o} {v : Value} {x : Guest} (h : GuestS w g s v x) : g < w.heap.size := (aG h.cell).1
theorem GuestS.ext {o : Nat} {w w' : World} {g : Nat} {s : Slot o} {v : Value} {x : Guest} (h : GuestS w g s v x) (hx : Ext w w') : GuestS w' g s v x :=
 ⟨by rw [hx.block g h.lt id]; exact h.cell, h.own.touch hx fun _ _ => id⟩
def repGuestS (g o : Nat) (s : Slot o) : Rep Guest where
 on w F x := ∃ v, (∀ k, F k ↔ foot g v k) /\ GuestS w g s v x
 lt := by
  rintro w F x ⟨v, hF, h⟩ k hk;rcases (hF k).1 hk with rfl | h1
  ·exact h.lt
  ·exact h.own.lt k h1
 keep := by
  rintro w w' F x ⟨v, hF, h⟩ hk;exact ⟨v, hF, by rw [hk g ((hF g).2 (.inl rfl))]; exact h.cell, h.own.keep fun k hk' => hk k ((hF k).2 (.inr hk'))⟩
theorem GuestS.turned {o : Nat} {w w' : World} {F : Nat -> Prop} {g : Nat} {s : Slot o} {v : Value} {x y : Guest} (h : GuestS w g s v x) (hF : ∀ k, F k ↔ foot g v k) (hc : w'.heap[g]? = some (.cells (s.fill (y.cells v)) 73 (0, 0)))
 (ht : Touch (fun k => k = g) w w') (hd : y.done = x.done) : Moved (repGuestS g o s) w F y w' := by
 refine ⟨F, ⟨v, hF, hc, ?_⟩, ht.mono fun k hk => .inl ((hF k).2 (.inl hk)), Fresh.refl _ _⟩;rw [hd];exact h.own.touch ht fun k hk e => h.own.elem h.cell (by decide) (e ▸ hk)
theorem GuestS.appended {o : Nat} {w wx w1 w' : World} {F : Nat -> Prop} {g : Nat} {s : Slot o} {v v' : Value} {x y : Guest} (h : GuestS w g s v x) (hF : ∀ k, F k ↔ foot g v k) (hx : Ext w wx) (hne : 112 ≠ 73)
 (hown : Owns w1 112 v' y.done) (hgrow : wx.grownBy w1 v.ownBlock) (hat : v'.ownBlock = v.ownBlock \/ v'.ownBlock = some wx.heap.size)
 (ht : Touch (fun k => k = g) w1 w') (hc : w'.heap[g]? = some (.cells (s.fill (y.cells v')) 73 (0, 0))) : Moved (repGuestS g o s) w F y w' := by
 have hlt := h.lt
 have hg1 : v'.ownBlock ≠ some g := by
  rcases hat with h1 | h1
  ·rw [h1]; exact h.own.elem h.cell hne
  ·rw [h1]; intro e; injection e with e; have := hx.size; omega
 refine ⟨foot g v', ⟨v', fun k => Iff.rfl, hc, hown.touch ht fun k hk e => hg1 (e ▸ hk)⟩, ?_, fun k hk => ?_⟩
 ·exact ((hx.mono (S := F) fun k hk => hk.elim).grown hgrow fun k hk => .inl ((hF k).2 (.inr hk))).then ht fun k hk => .inl ((hF k).2 (.inl hk))
 ·rcases hk with rfl | hk
  ·exact .inl ((hF _).2 (.inl rfl))
  ·rcases hat with h1 | h1
   ·exact .inl ((hF k).2 (.inr (by rw [<- h1]; exact hk)))
   ·rw [h1] at hk; injection hk with hk; exact .inr (by have := hx.size; omega)
def TurnS {o : Nat} (w : World) (g : Nat) (s : Slot o) (v : Value) (y : Guest) (r : Value) (e : Ending) (w' : World) : Prop :=
 e = .returned r /\ w'.heap[g]? = some (.cells (s.fill (y.cells v)) 73 (0, 0)) /\ Touch (fun k => k = g) w w'
theorem TurnS.same {o : Nat} {w w' : World} {g : Nat} {s : Slot o} {v : Value} {x : Guest} {r : Value} {e : Ending} (hg : w.heap[g]? = some (.cells (s.fill (x.cells v)) 73 (0, 0))) (he : e = .returned r) (hx : Ext w w') : TurnS w g s v x r e w' :=
 ⟨he, (hx.block g (aG hg).1 id).trans hg, hx.mono fun _ h => h.elim⟩
theorem guestS_send (w : World) (g o : Nat) (s : Slot o) (v : Value) (x : Guest) (h : GuestS w g s v x) :
 Calls Tryz.prog 68 #[.pointer (some ⟨g, o, none⟩)] w (SendGuest w x) := by
 have hg := h.cell;obtain ⟨hlt, hg'⟩ := aG h.cell;by_cases ho : x.isOpen = true
 ·have hc : w.cell? ⟨g, o + 6, none⟩ = some (.bool true) := by rw [cell_of h.cell (o + 6), gs_get6, ho]
  have hc0 : w.cell? ⟨g, o, none⟩ = some (.int .i64 x.me) := by rw [cell_of h.cell o, gs_get0]
  have hc1 : w.cell? ⟨g, o + 1, none⟩ = some (.int .i64 x.no) := by rw [cell_of h.cell (o + 1), gs_get1]
  have HO := lh ho;clear ho h;go_enter Tryz.func68, Tryz.ntmps68
  go_wp2
  go_region
  all_goals
   go_wp2
   refine bodyPost_ret (results_cell_tmp rfl _ _ ⟨w.heap.size, 0, none⟩ (.agg (gSend x).1.cells) rfl ?_) rfl ?_
   ·unfold gSend;rw [if_pos HO.out];exact load_block isPacket (by simp only [heap_drew']; exact heap_alloc_new _ _)
   ·unfold SendGuest gSend;rw [if_pos HO.out];exact ⟨rfl, ((Touch.refl _ w).alloc _).drew⟩
 ·have ho' : x.isOpen = false := by simpa using ho
  have hc : w.cell? ⟨g, o + 6, none⟩ = some (.bool false) := by rw [cell_of h.cell (o + 6), gs_get6, ho']
  have HO := lh ho;clear ho ho' h;go_enter Tryz.func68, Tryz.ntmps68
  go_wp2
  refine bodyPost_ret (results_cell_tmp rfl _ _ ⟨w.heap.size, 0, none⟩ (.agg (gSend x).1.cells) rfl ?_) rfl ?_
  ·unfold gSend;rw [if_neg HO.out];exact load_block isPacket (heap_alloc_new _ _)
  ·unfold SendGuest gSend;rw [if_neg HO.out];exact ⟨rfl, (Touch.refl _ w).alloc _⟩
theorem guestS_ask (w : World) (g o : Nat) (s : Slot o) (v : Value) (x : Guest) (c : Call) (h : GuestS w g s v x) (hno : 0 <= x.no /\ x.no <= 200) (h1 : c.name.size <= 140737488351232) (h2 : c.to_.size <= 140737488351232) (h3 : c.text.size <= 140737488351232) :
 Calls Tryz.prog 111 #[.pointer (some ⟨g, o, none⟩), .agg c.cells] w (TurnS w g s v (gAsk x c).2 (.int .i64 (gAsk x c).1)) := by
 obtain ⟨hlt, hg'⟩ := aG h.cell;have hg := h.cell;have hc6 : w.cell? ⟨g, o + 6, none⟩ = some (.bool x.isOpen) := by rw [cell_of h.cell (o + 6), gs_get6]
 have hc1 : w.cell? ⟨g, o + 1, none⟩ = some (.int .i64 x.no) := by rw [cell_of h.cell (o + 1), gs_get1]
 have hf := fun o => frozen_of h.cell o;have HG := lh h.cell;obtain ⟨hno0, hno1⟩ := hno;clear h;by_cases hcode : callCode c ≠ 0
 ·have hcb : (callCode c != 0) = true := bne_iff_ne.2 hcode;have HC := lh hcode;clear hcode;go_enter Tryz.func111, Tryz.ntmps111
  go_wp2_with (go_at_call 64; refine (ref_fault _ c h1 h2 h3).mono ?_; rintro e w1 ⟨rfl, rfl⟩)
  go_ret
  unfold TurnS gAsk;rw [if_pos HC.out];exact TurnS.same HG.out rfl (by repeat (first | exact Touch.refl _ _ | refine Touch.alloc ?_ _ | refine Touch.drew ?_))
 have hcode' : callCode c = 0 := by simpa using hcode
 have hcb : (callCode c != 0) = false := bne_eq_false_iff_eq.2 hcode';have HC := lh hcode;clear hcode hcode';by_cases ho : x.isOpen = true
 ·have HO := lh ho;rw [ho] at hc6;clear ho;go_enter Tryz.func111, Tryz.ntmps111
  go_wp2_with (go_at_call 64; refine (ref_fault _ c h1 h2 h3).mono ?_; rintro e w1 ⟨rfl, rfl⟩)
  go_ret
  unfold gAsk;rw [if_neg HC.out, if_pos HO.out];exact TurnS.same HG.out rfl (by repeat (first | exact Touch.refl _ _ | refine Touch.alloc ?_ _ | refine Touch.drew ?_))
 have ho' : x.isOpen = false := by simpa using ho
 have HO := lh ho;rw [ho'] at hc6;clear ho ho';by_cases hn : 200 <= x.no
 ·have HN := lh hn;go_enter Tryz.func111, Tryz.ntmps111
  go_wp2_with (go_at_call 64; refine (ref_fault _ c h1 h2 h3).mono ?_; rintro e w1 ⟨rfl, rfl⟩)
  go_ret
  unfold gAsk;rw [if_neg HC.out, if_neg HO.out, if_pos HN.out];exact TurnS.same HG.out rfl (by repeat (first | exact Touch.refl _ _ | refine Touch.alloc ?_ _ | refine Touch.drew ?_))
 ·have HN := lh hn;go_enter Tryz.func111, Tryz.ntmps111
  go_wp2_with (go_at_call 64; refine (ref_fault _ c h1 h2 h3).mono ?_; rintro e w1 ⟨rfl, rfl⟩)
  (go_region; go_wp2)
  go_ret
  unfold gAsk;rw [if_neg HC.out, if_neg HO.out, if_neg (by have := HN.out; omega)];refine ⟨rfl, ?_, ?_⟩
  ·simp [go_sem, hg', hlt]
  ·repeat (first | exact Touch.refl _ _ | refine Touch.alloc ?_ _ | refine Touch.drew ?_ | refine Touch.setCell_at ?_ _ _ | refine Touch.setRow_at ?_ _)
attribute [local go_sem ↓] append_word
def HearS {o : Nat} (w : World) (g : Nat) (s : Slot o) (v : Value) (x : Guest) (p : Packet) (e : Ending) (w' : World) : Prop :=
 e = .returned (.bool (gHear x p).1) /\ ∀ F, (∀ k, F k ↔ foot g v k) -> Moved (repGuestS g o s) w F (gHear x p).2 w'
theorem HearS.no {o : Nat} {w w' : World} {g : Nat} {s : Slot o} {v : Value} {x : Guest} {p : Packet} {e : Ending} (h : GuestS w g s v x) (hn : ¬ gHears x p) (he : e = .returned (.bool false)) (hx : Ext w w') : HearS w g s v x p e w' := by
 unfold HearS gHear;rw [if_neg hn];exact ⟨he, fun F hF => Rep.moved (R := repGuestS g o s) ⟨v, hF, h⟩ hx⟩
theorem guestS_hear_no (w : World) (g o : Nat) (s : Slot o) (v : Value) (x : Guest) (p : Packet) (h : GuestS w g s v x) (hn : ¬ gHears x p) :
 Calls Tryz.prog 115 #[.pointer (some ⟨g, o, none⟩), .agg p.cells] w (HearS w g s v x p) := by
 obtain ⟨hlt, hg'⟩ := aG h.cell;have hg := h.cell;have hc6 : w.cell? ⟨g, o + 6, none⟩ = some (.bool x.isOpen) := by rw [cell_of h.cell (o + 6), gs_get6]
 have hc0 : w.cell? ⟨g, o, none⟩ = some (.int .i64 x.me) := by rw [cell_of h.cell o, gs_get0]
 have hc1 : w.cell? ⟨g, o + 1, none⟩ = some (.int .i64 x.no) := by rw [cell_of h.cell (o + 1), gs_get1]
 have HH := lh h;have HN := lh hn;clear h;by_cases ho : x.isOpen = true
 case neg =>
  have ho' : x.isOpen = false := by simpa using ho
  clear hn ho;rw [ho'] at hc6;clear ho';go_enter Tryz.func115, Tryz.ntmps115
  go_wp2
  go_quiet (fail)
  go_wp2
  go_ret
  exact HearS.no HH.out HN.out rfl (by repeat (first | exact Touch.refl _ _ | refine Touch.alloc ?_ _ | refine Touch.drew ?_ | refine Touch.drewN ?_ _))
 rw [ho] at hc6;by_cases hr : p.reply = true
 case neg =>
  have hr' : p.reply = false := by simpa using hr
  clear hn ho hr;go_enter Tryz.func115, Tryz.ntmps115
  go_wp2
  go_quiet (fail)
  go_wp2
  go_ret
  exact HearS.no HH.out HN.out rfl (by repeat (first | exact Touch.refl _ _ | refine Touch.alloc ?_ _ | refine Touch.drew ?_ | refine Touch.drewN ?_ _))
 by_cases h1 : p.client = x.me
 case neg =>
  have h1a : (p.client == x.me) = false := bF h1;have h1b : (p.client != x.me) = true := bne_iff_ne.2 h1;clear hn ho h1;go_enter Tryz.func115, Tryz.ntmps115
  go_wp2
  go_quiet (fail)
  go_wp2
  go_ret
  exact HearS.no HH.out HN.out rfl (by repeat (first | exact Touch.refl _ _ | refine Touch.alloc ?_ _ | refine Touch.drew ?_ | refine Touch.drewN ?_ _))
 have h1a : (p.client == x.me) = true := beq_iff_eq.2 h1;have h1b : (p.client != x.me) = false := bne_eq_false_iff_eq.2 h1;by_cases h2 : p.no = x.no
 case neg =>
  have h2a : (p.no == x.no) = false := bF h2;have h2b : (p.no != x.no) = true := bne_iff_ne.2 h2;clear hn ho h1 h2;go_enter Tryz.func115, Tryz.ntmps115
  go_wp2
  go_quiet (fail)
  go_wp2
  go_ret
  exact HearS.no HH.out HN.out rfl (by repeat (first | exact Touch.refl _ _ | refine Touch.alloc ?_ _ | refine Touch.drew ?_ | refine Touch.drewN ?_ _))
 have h2a : (p.no == x.no) = true := beq_iff_eq.2 h2;have h2b : (p.no != x.no) = false := bne_eq_false_iff_eq.2 h2;have h3 : p.call ≠ x.call := fun e => hn ⟨ho, hr, h1, h2, e⟩;have h3a : decide (p.call = x.call) = false := decide_eq_false h3;clear hn ho h1 h2 h3;go_enter Tryz.func115, Tryz.ntmps115
 go_wp2
 go_quiet (fail)
 go_wp2
 go_ret
 exact HearS.no HH.out HN.out rfl (by repeat (first | exact Touch.refl _ _ | refine Touch.alloc ?_ _ | refine Touch.drew ?_ | refine Touch.drewN ?_ _))
theorem guestS_hear_yes (w : World) (g o : Nat) (s : Slot o) (v : Value) (x : Guest) (p : Packet) (h : GuestS w g s v x) (hy : gHears x p) (hl : x.done.length <= 1000) :
 Calls Tryz.prog 115 #[.pointer (some ⟨g, o, none⟩), .agg p.cells] w (HearS w g s v x p) := by
 obtain ⟨A, c, rfl, hcap, hcm, hrd⟩ := h.own.form;have hm := hcm;unfold maxLen at hm;clear hcm hrd;obtain ⟨hlt, hg'⟩ := aG h.cell;have hg := h.cell;have hY := lh hy;obtain ⟨ho, hr, h1, h2, h3⟩ := hy;have hc6 : w.cell? ⟨g, o + 6, none⟩ = some (.bool true) := by rw [cell_of h.cell (o + 6), gs_get6, ho]
 have hc0 : w.cell? ⟨g, o, none⟩ = some (.int .i64 x.me) := by rw [cell_of h.cell o, gs_get0]
 have hc1 : w.cell? ⟨g, o + 1, none⟩ = some (.int .i64 x.no) := by rw [cell_of h.cell (o + 1), gs_get1]
 have h1a : (p.client == x.me) = true := beq_iff_eq.2 h1;have h1b : (p.client != x.me) = false := bne_eq_false_iff_eq.2 h1;have h2a : (p.no == x.no) = true := beq_iff_eq.2 h2;have h2b : (p.no != x.no) = false := bne_eq_false_iff_eq.2 h2;have h3a : decide (p.call = x.call) = true := decide_eq_true h3;have HH := lh h;clear h h1 h2 h3 ho;go_enter Tryz.func115, Tryz.ntmps115
 go_wp2
 go_quiet (fail)
 go_wp2
 have hx : Ext w ((w.alloc (.cells p.cells 103)).drewN nq) := ((Touch.refl _ _).alloc _).drewN _;have hb : ((w.alloc (.cells p.cells 103)).drewN nq).heap[w.heap.size]? = some (.cells p.cells 103) := heap_alloc_new _ _;generalize (w.alloc (.cells p.cells 103)).drewN nq = w2 at hx hb ⊢;have H2 := HH.out.ext hx;clear hc6 hc0 hc1 hg hg'
 obtain ⟨A1, c1, w1, hrun, hown1, hgrow1, hat1⟩ := run_append_reads (w := (w2.alloc (.cells (gRec x p.answer).cells 112)).drew) elemRecord 62 62 Tryz.underlying62 (Owns.ext H2.own (((Touch.refl _ _).alloc _).drew)) (r := [gRec x p.answer]) (c := 1)
  (reads_block (x := gRec x p.answer) (t := 112) (fr := (0, 0)) (heap_alloc_new _ _) (w2.heap.size + 1) (by omega)) (by simp; omega)
 have hrunS : (appendS #[62, 62] 62 #[.slice A x.done.length c, .slice (some ⟨w2.heap.size, 0, none⟩) 1 1]).run Tryz.prog (w2.alloc (.cells (⟨x.me, x.no, x.call, p.answer⟩ : Record).cells 112)).drew = .ok (.slice A1 (x.done.length + 1) c1) w1 := hrun;clear hrun;have HO1 := lh hown1;have HR1 := lh hgrow1;have HA1 := lh hat1;clear hown1 hgrow1 hat1;obtain ⟨hlt, hg'⟩ := aG H2.cell;have hg := H2.cell;have hc0 : w2.cell? ⟨g, o, none⟩ = some (.int .i64 x.me) := by rw [cell_of H2.cell o, gs_get0]
 have hc1 : w2.cell? ⟨g, o + 1, none⟩ = some (.int .i64 x.no) := by rw [cell_of H2.cell (o + 1), gs_get1]
 have hc7 : w2.cell? ⟨g, o + 7, none⟩ = some (.slice A x.done.length c) := by rw [cell_of H2.cell (o + 7), gs_get7]
 have hg1 := World.grownBy.blk HR1.out (b := g) (o := .cells (s.fill (x.cells (.slice A x.done.length c))) 73 (0, 0)) (((Touch.refl (fun _ => False) w2).alloc _).drew.blk H2.cell id) (H2.own.elem H2.cell (by decide));have hc71 : w1.cell? ⟨g, o + 7, none⟩ = some (.slice A x.done.length c) := by rw [cell_of hg1 (o + 7), gs_get7]
 have hc61 : w1.cell? ⟨g, o + 6, none⟩ = some (.bool x.isOpen) := by rw [cell_of hg1 (o + 6), gs_get6]
 have hf71 := frozen_of hg1 (o + 7);have hf61 := frozen_of hg1 (o + 6);have HG1 := lh hg1;have HH2 := lh H2;have HX := lh hx;clear hg1 H2 hx;go_region
 all_goals
  go_wp2
  go_ret
  have e1 : gHear x p = (true, { x with done := x.done ++ [gRec x p.answer], isOpen := false }) := by unfold gHear; rw [if_pos hY.out]
  unfold HearS;rw [e1];refine ⟨rfl, fun F hF => GuestS.appended HH.out hF (wx := (w2.alloc (.cells (gRec x p.answer).cells 112)).drew) ((HX.out.alloc _).drew) (by decide) HO1.out HR1.out HA1.out ?_ ?_⟩
  ·exact Touch.setCell_at (Touch.setCell_at (Touch.refl _ _) _ _) _ _
  ·have q1 := gs_set7 s x (.slice A x.done.length c) (.slice A1 (x.done.length + 1) c1);have q2 := gs_set6 s x (.slice A1 (x.done.length + 1) c1) false;have q3 := heap_setCell_same _ g (o + 7) _ _ (.slice A1 (x.done.length + 1) c1) HG1.out;rw [q1] at q3;have q4 := heap_setCell_same _ g (o + 6) _ _ (.bool false) q3;rw [q2] at q4;exact q4
theorem guestS_ask' (w : World) (F : Nat -> Prop) (g o : Nat) (s : Slot o) (x : Guest) (c : Call) (h : (repGuestS g o s).on w F x) (hno : 0 <= x.no /\ x.no <= 200) (h1 : c.name.size <= 140737488351232) (h2 : c.to_.size <= 140737488351232) (h3 : c.text.size <= 140737488351232) :
 Calls Tryz.prog 111 #[.pointer (some ⟨g, o, none⟩), .agg c.cells] w (Moves (repGuestS g o s) w F (gAsk x c).2 (.int .i64 (gAsk x c).1)) := by
 obtain ⟨v, hF, h⟩ := h;exact (guestS_ask w g o s v x c h hno h1 h2 h3).mono fun e w' ⟨he, hc, ht⟩ => ⟨he, h.turned hF hc ht (gAsk_done x c)⟩
theorem guestS_hear' (w : World) (F : Nat -> Prop) (g o : Nat) (s : Slot o) (x : Guest) (p : Packet) (h : (repGuestS g o s).on w F x) (hl : x.done.length <= 1000) :
 Calls Tryz.prog 115 #[.pointer (some ⟨g, o, none⟩), .agg p.cells] w (Moves (repGuestS g o s) w F (gHear x p).2 (.bool (gHear x p).1)) := by
 obtain ⟨v, hF, h⟩ := h;by_cases hy : gHears x p
 ·exact (guestS_hear_yes w g o s v x p h hy hl).mono fun e w' ⟨he, hm⟩ => ⟨he, hm F hF⟩
 ·exact (guestS_hear_no w g o s v x p h hy).mono fun e w' ⟨he, hm⟩ => ⟨he, hm F hF⟩
theorem guestS_send' (w : World) (F : Nat -> Prop) (g o : Nat) (s : Slot o) (x : Guest) (h : (repGuestS g o s).on w F x) :
 Calls Tryz.prog 68 #[.pointer (some ⟨g, o, none⟩)] w (SendGuest w x) := by
 obtain ⟨v, hF, h⟩ := h;exact guestS_send w g o s v x h
def SendS (w : World) (g : Nat) {o : Nat} (s : Slot o) (v : Value) (l : List Packet) (m : Packet) (e : Ending) (w' : World) : Prop :=
 if l.length < 40 then e = .returned (.bool true) /\ ∃ v', HoldsS w' g s 73 103 v' (l ++ [m]) /\ Touch (foot g v) w w' /\ ∀ k, v'.ownBlock = some k -> v.ownBlock = some k \/ w.heap.size <= k
 else e = .returned (.bool false) /\ Ext w w'
def TakeS (w : World) (g : Nat) {o : Nat} (s : Slot o) (v : Value) (l : List Packet) (n : Int) (e : Ending) (w' : World) : Prop :=
 (l = [] /\ e = .returned (.tuple #[.agg Packet.zero.cells, .bool false]) /\ Ext w w') \/
 (∃ m, l[rnd n l.length]? = some m /\ e = .returned (.tuple #[.agg m.cells, .bool true]) /\
  ∃ v', HoldsS w' g s 73 103 v' (l.take (rnd n l.length) ++ l.drop (rnd n l.length + 1)) /\ Touch (foot g v) w w' /\ ∀ k, v'.ownBlock = some k -> v.ownBlock = some k \/ w.heap.size <= k)
def DoubleS (w : World) (g : Nat) {o : Nat} (s : Slot o) (v : Value) (l : List Packet) (n : Int) (e : Ending) (w' : World) : Prop :=
 (¬ (0 < l.length /\ l.length < 40) /\ e = .returned (.bool false) /\ Ext w w') \/
 (0 < l.length /\ l.length < 40 /\ ∃ m, l[rnd n l.length]? = some m /\ e = .returned (.bool true) /\
  ∃ v', HoldsS w' g s 73 103 v' (l ++ [m]) /\ Touch (foot g v) w w' /\ ∀ k, v'.ownBlock = some k -> v.ownBlock = some k \/ w.heap.size <= k)
theorem DoubleS.of_send {w : World} {g o : Nat} {s : Slot o} {v : Value} {l : List Packet} {n : Int} {m : Packet} (hpos : 0 < l.length) (hm : l[rnd n l.length]? = some m) {e : Ending} {w' : World} (h : SendS w g s v l m e w') : DoubleS w g s v l n e w' := by
 unfold SendS at h;split at h
 ·rename_i hl;obtain ⟨he, v', h1, h2, h3⟩ := h;exact .inr ⟨hpos, hl, m, hm, he, v', h1, h2, h3⟩
 ·rename_i hl;exact .inl ⟨fun hh => hl hh.2, h⟩
theorem bagS_send (w : World) (g o : Nat) (s : Slot o) (v : Value) (l : List Packet) (m : Packet) (h : HoldsS w g s 73 103 v l) :
 Calls Tryz.prog 69 #[.pointer (some ⟨g, o, none⟩), .agg m.cells] w (SendS w g s v l m) := by
 obtain ⟨A, c, rfl, hc, hcm, hr⟩ := h.own.form;have hlt := h.lt;have hm := hcm;unfold maxLen at hm;have hc0 := h.at0;have H := lh h;clear h hr hcm;by_cases hl : l.length < 40
 ·have hlh := lh hl;have hl' : ¬ (40 <= l.length) := by omega
  go_enter Tryz.func69, Tryz.ntmps69
  go_wp2
  have HO := H.out.own;have HC := H.out.cell
  go_region_law (
   (refine step_append_own (by rfl) (.tmp 13) (.tmp 15) 71 (by rfl) elemPacket Tryz.underlying71 (v := .slice A l.length c) (l := l) (by rfl) (HO.keep fun k hk => ?hk1) [m] (by rfl) (l.length + 1) (by rfl) (by rfl) (reads_block (x := m) (t := 103) (fr := (0, 0)) ?hn1 (w.heap.size + 2) (by omega)) (by simp; omega) ?_
    case hk1 => exact ((Touch.refl (fun _ => False) w).alloc _ |>.alloc _ |>.drew).block k (HO.lt k hk) id
    case hn1 => simp only [heap_alloc_at, heap_drew', World.size_alloc]; rfl
    intro A1 c1 w1 hown1 hgrow1 hat1;have hg1 := World.grownBy.blk hgrow1 (b := g) (o := .cells (s.fill #[.slice A l.length c]) 73 (0, 0)) (by simp only [heap_alloc_past, heap_drew', hlt, World.size_alloc, lt_size_add]; exact HC) (HO.elem HC (by decide));have hc1 := slot_cell hg1;have hf1 := frozen_of hg1 o))
  all_goals
   go_wp2
   go_ret
   rw [SendS, if_pos hlh.out];exact ⟨rfl, _, HoldsS.appended H.out ((Touch.refl _ w).alloc _ |>.alloc _ |>.drew) (by decide) hown1 hgrow1 hat1⟩
 ·have hl' : 40 <= l.length := by omega
  go_enter Tryz.func69, Tryz.ntmps69
  go_wp2
  go_ret
  rw [SendS, if_neg hl];exact ⟨rfl, (Touch.refl _ w).alloc _⟩
theorem bagS_at (w : World) (g o : Nat) (s : Slot o) (v : Value) (l : List Packet) (n : Int) (h : HoldsS w g s 73 103 v l) (hpos : 0 < l.length) :
 Calls Tryz.prog 114 #[.pointer (some ⟨g, o, none⟩), .int .i64 n] w fun e w' => e = .returned (.int .i64 (rnd n l.length : Int)) /\ w = w' := by
 obtain ⟨A, c, rfl, hc, hcm, hr⟩ := h.own.form;have hm := hcm;unfold maxLen at hm;have hc0 := h.at0;have H := lh h;have hlen := lh (show l.length <= 9223372036854775807 by omega);clear h hr hcm;have hl0 : ((l.length : Int) == 0) = false := bF (by omega);go_enter Tryz.func114, Tryz.ntmps114
 go_wp2
 go_ret
 rw [<- rnd_wrap n l.length hpos hlen.out];exact ⟨rfl, rfl⟩
theorem bagS_take_some (w : World) (g o : Nat) (s : Slot o) (ad : Addr) (c : Nat) (l : List Packet) (n : Int) (h : HoldsS w g s 73 103 (.slice (some ad) l.length c) l) (hl : l.length <= 40) (hpos : 0 < l.length) :
 Calls Tryz.prog 66 #[.pointer (some ⟨g, o, none⟩), .int .i64 n] w (TakeS w g s (.slice (some ad) l.length c) l n) := by
 obtain ⟨A, c', hv, hc, hcm, hr⟩ := h.own.form;injection hv with hv1 hv2 hv3;subst hv3;subst hv1;have hi := rnd_lt n l.length hpos;obtain ⟨m, hm⟩ : ∃ m, l[rnd n l.length]? = some m := ⟨l[rnd n l.length], by simp [hi]⟩
 obtain ⟨ad', he, hadb, hat⟩ := hr _ m hm;injection he with he;subst he;obtain ⟨i, hii⟩ : ∃ i, rnd n l.length = i := ⟨_, rfl⟩
 rw [hii] at hi hm hat
 have hLV : ∀ o, LV Tryz.prog 103 (ad.add (i * 9)) (w.alloc o) = .ok (.agg m.cells) (w.alloc o) := fun o => LV_Packet (hat.of_same (Below.heap_alloc _ _ _ (by unfold Addr.add; split <;> exact hadb)));have hne := h.own.elem h.cell (by decide);have hadg : ad.block ≠ g := fun e => hne (by simp [Value.ownBlock, e]);have hlt := h.lt;have hc0 := h.at0;have H := lh h;have HM := lh hm;have HI := lh hii;have hi0 : (0 : Int) <= (i : Int) := by omega
 have hi2 : (i : Int) < l.length := by omega
 have hi3 : (i : Int) <= 100 := by omega
 have hi4 : (0 : Int) <= (i : Int) + 1 := by omega
 have hi5 : (i : Int) + 1 <= l.length := by omega
 have hi6 : i <= c := by omega
 have hi7 : i + 1 <= l.length := by omega
 have hl4 := lh hl;have hpos' := lh hpos;have hi' := lh hi;have hcL := lh hc;have hg1 : (w.heap.size = g) = False := by simp; omega
 have hg2 : (w.heap.size + 1 = g) = False := by simp; omega
 have HNE := lh hadg;have hl0 : ((l.length : Int) == 0) = false := bF (by omega);obtain ⟨A1, hA1⟩ : ∃ A1, (if c = i + 1 then some ad else some (ad.add ((i + 1) * 9))) = A1 := ⟨_, rfl⟩
 have HR1 := lh (hr.take i);have HR2 := lh (hr.cut (i + 1) c hc hA1);clear h hr hcm hm hat hne hl hadg hii hv2;go_enter Tryz.func66, Tryz.ntmps66
 go_wp2_with (go_at_call 114; refine (bagS_at _ g o s _ l n (H.out.ext ((Touch.refl _ w).alloc _)) hpos'.out).mono ?_; rw [HI.out]; rintro e w' ⟨rfl, rfl⟩)
 have hx : Ext w ((w.alloc (.cells Packet.zero.cells 103)).alloc (.cells m.cells 103)) := ((Touch.refl _ w).alloc _).alloc _;have hz0 : ((w.alloc (.cells Packet.zero.cells 103)).alloc (.cells m.cells 103)).heap[w.heap.size]? = some (.cells Packet.zero.cells 103 (0, 0)) := by simp only [heap_alloc_at, heap_alloc_past, World.size_alloc, Nat.lt_add_one]
 have hz1 : ((w.alloc (.cells Packet.zero.cells 103)).alloc (.cells m.cells 103)).heap[w.heap.size + 1]? = some (.cells m.cells 103 (0, 0)) := by simp only [heap_alloc_at, World.size_alloc]
 generalize hW : (w.alloc (.cells Packet.zero.cells 103)).alloc (.cells m.cells 103) = W at *;have hWs : w.heap.size + 2 = W.heap.size := by rw [<- hW]; simp
 have hz2 := hx.blk H.out.cell id;have hc1 := slot_cell hz2;have hRW := HR1.out.below (w' := W) (fun k hk => hx.block k hk id);have HT : Hid (i = (l.take i).length) := by show i = _; rw [List.length_take]; have := hi'.out; omega
 have HD : Hid (l.length - (i + 1) = (l.drop (i + 1)).length) := by show _ = _; rw [List.length_drop]
 have HRW := lh hRW;have HRD := lh (HR2.out.below (w' := W) (fun k hk => hx.block k hk id));have HX := lh hx;have HWS := lh hWs;clear hW hRW hx hWs;have hwr : IntKind.i64.wrap ((i : Int) + 1) = (i : Int) + 1 := IntWalk.i64_in _ (by omega);have hwn : ((i : Int) + 1).toNat = i + 1 := by omega
 go_region_law (first
  | (refine step_append_own (by rfl) (.tmp 25) (.tmp 30) 71 (by rfl) elemPacket Tryz.underlying71 (v := .slice none 0 0) (l := []) (by rfl) (Owns.nil _ _) (l.take i) HT.out i (by simp) (by rfl) HRW.out (by have := HT.out; have := hi'.out; have := hl4.out; simp; omega) ?_
     intro A2 c2 w2 hown2 hgrow2 hat2;simp only [List.nil_append] at hown2
     have hob2 : ∀ k, (Value.slice A2 i c2).ownBlock = some k -> W.heap.size <= k := fun k hk => by
      rcases hat2 with h1 | h1 <;> rw [h1] at hk <;> simp [Value.ownBlock] at hk
      omega
     have hy2 := World.grownBy.blk hgrow2 hz2 (by simp [Value.ownBlock]);have hy20 := World.grownBy.blk hgrow2 hz0 (by simp [Value.ownBlock]);have hy21 := World.grownBy.blk hgrow2 hz1 (by simp [Value.ownBlock]);have hc2 := slot_cell hy2;have hsz2 : W.heap.size <= w2.heap.size := hgrow2.size)
  | (refine step_append_own (by rfl) (.tmp 31) (.tmp 37) 71 (by rfl) elemPacket Tryz.underlying71 (v := .slice A2 i c2) (l := l.take i) (by rfl) hown2 (l.drop (i + 1)) HD.out (i + (l.length - (i + 1))) (by rw [<- HT.out]) (by rfl) (HRD.out.below fun k hk => hgrow2.block k (by have := HWS.out; show k < W.heap.size; omega) (by simp [Value.ownBlock])) (by have := hl4.out; simp; omega) ?_
     intro A3 c3 w3 hown3 hgrow3 hat3;have hlts := HWS.out
     have hob3 : ∀ k, (Value.slice A3 (i + (l.length - (i + 1))) c3).ownBlock = some k -> W.heap.size <= k := fun k hk => by
      rcases hat3 with h1 | h1
      ·exact hob2 k (h1 ▸ hk)
      ·rw [h1] at hk; injection hk with hk; have : w2.heap.size = k := hk; omega
     have hy3 := World.grownBy.blk hgrow3 hy2 (fun e => by have := hob2 _ e; omega);have hy30 := World.grownBy.blk hgrow3 hy20 (fun e => by have := hob2 _ e; omega);have hy31 := World.grownBy.blk hgrow3 hy21 (fun e => by have := hob2 _ e; omega);have hc3 := slot_cell hy3;have hf3 := frozen_of hy3 o;have HO3 := lh hown3;have HG2 := lh hgrow2;have HG3 := lh hgrow3;have HB2 := lh hob2;have HB3 := lh hob3;clear hlts hown3 hown2 hob2 hob3 hat2 hat3 hgrow2 hgrow3))
 all_goals
  go_wp2
  have HH := (HoldsS.stored hy3 HO3.out (by decide)).setRow (b := w.heap.size) (fun hk => by
   rcases hk with e | e
   ·simp at hg1; omega
   ·have := HB3.out _ e; have := HWS.out; omega) m.cells
  refine bodyPost_ret (results_cell_tmp rfl _ _ ⟨w.heap.size, 0, none⟩ (.agg m.cells) rfl ?_) rfl (.inr ⟨m, by rw [HI.out]; exact HM.out, rfl, _, by rw [HI.out]; exact HH, ?_, fun k hk => .inr (by have := HB3.out _ hk; have := HWS.out; omega)⟩)
  ·exact load_block (x := m) isPacket (setRow_heap _ _ _ _ _ _ ((heap_setCell_other _ _ _ _ (by simpa using hg1)).trans hy30))
  ·exact ((((HX.out.mono (S := foot g _) (fun _ e => e.elim)).drew).grown HG2.out (fun k hk => by simp [Value.ownBlock] at hk)).grown HG3.out (fun k hk => .inr (by have := HB2.out _ hk; have := HWS.out; omega))).setCell (.inl (.inl rfl)) _ |>.setRow (.inr (Nat.le_refl _)) _
theorem bagS_take (w : World) (g o : Nat) (s : Slot o) (v : Value) (l : List Packet) (n : Int) (h : HoldsS w g s 73 103 v l) (hl : l.length <= 40) :
 Calls Tryz.prog 66 #[.pointer (some ⟨g, o, none⟩), .int .i64 n] w (TakeS w g s v l n) := by
 by_cases hl0 : l = []
 ·subst hl0;obtain ⟨A, c, rfl, hc, hcm, hr⟩ := h.own.form;have hc0 := h.at0;have hlt := h.lt;have H := lh h;clear h hr hcm hc;go_enter Tryz.func66, Tryz.ntmps66
  go_wp2
  refine bodyPost_ret (results_cell_tmp rfl _ _ ⟨w.heap.size, 0, none⟩ (.agg Packet.zero.cells) rfl ?_) rfl (.inl ⟨rfl, rfl, (Touch.refl _ w).alloc _⟩);exact load_block (x := Packet.zero) isPacket (heap_alloc_new _ _)
 ·obtain ⟨A, c, rfl, hc, hcm, hr⟩ := h.own.form;have hpos : 0 < l.length := List.length_pos_iff.2 hl0;obtain ⟨ad, rfl, _⟩ := hr 0 l[0] (by simp);exact bagS_take_some w g o s ad c l n h hl hpos
theorem bagS_double (w : World) (g o : Nat) (s : Slot o) (v : Value) (l : List Packet) (n : Int) (h : HoldsS w g s 73 103 v l) (hl : l.length <= 40) :
 Calls Tryz.prog 112 #[.pointer (some ⟨g, o, none⟩), .int .i64 n] w (DoubleS w g s v l n) := by
 by_cases hl0 : l = []
 ·subst hl0;obtain ⟨A, c, rfl, hc, hcm, hr⟩ := h.own.form;have hc0 := h.at0;have H := lh h;clear h hr hcm hc;go_enter Tryz.func112, Tryz.ntmps112
  go_wp2
  go_ret
  exact .inl ⟨by simp, rfl, Touch.refl _ w⟩
 ·obtain ⟨A, c, rfl, hc, hcm, hr⟩ := h.own.form;have hpos : 0 < l.length := List.length_pos_iff.2 hl0;have hi := rnd_lt n l.length hpos;obtain ⟨m, hm⟩ : ∃ m, l[rnd n l.length]? = some m := ⟨l[rnd n l.length], by simp [hi]⟩
  obtain ⟨ad, rfl, hadb, hat⟩ := hr _ m hm;have hLV : LV Tryz.prog 103 (ad.add (rnd n l.length * 9)) w = .ok (.agg m.cells) w := LV_Packet hat
  have hLVd : LV Tryz.prog 103 (ad.add (rnd n l.length * 9)) w.drew = .ok (.agg m.cells) w.drew := LV_Packet (w := w.drew) hat
  have hc0 := h.at0;have H := lh h;have HM := lh hm;have hi0 : (0 : Int) <= rnd n l.length := by omega
  have hi2 : (rnd n l.length : Int) < l.length := by omega
  have hi3 : (rnd n l.length : Int) <= 100 := by omega
  have hl0' : ((l.length : Int) == 0) = false := bF (by omega);have hpos' := lh hpos;clear h hr hcm hm hat hl hc hl0;go_enter Tryz.func112, Tryz.ntmps112
  go_wp2_with fail
  go_region_law (first
   | (go_simp; go_at_call 114; refine (bagS_at _ g o s _ l n (H.out.ext ((Touch.refl _ w).drew)) hpos'.out).mono ?_; rintro e w' ⟨rfl, rfl⟩)
   | (go_simp; go_at_call 69; refine (bagS_send _ g o s _ l m (H.out.ext ((Touch.refl _ w).drew))).mono ?_
      intro e w1 hs;have hs1 := DoubleS.of_send (n := n) hpos'.out HM.out hs;obtain ⟨b, hb⟩ : ∃ b, e = .returned (.bool b) := by rcases hs1 with ⟨_, he, _⟩ | ⟨_, _, _, _, he, _⟩ <;> exact ⟨_, he⟩
      subst hb;have HS := lh hs1;clear hs hs1))
  all_goals
   go_wp2
   go_ret
   rcases HS.out with ⟨h1, he, ht⟩ | ⟨h1, h2, m', h3, he, v', h4, ht, h5⟩
   ·exact .inl ⟨h1, he, ((Touch.refl _ w).drew).trans ht⟩
   ·exact .inr ⟨h1, h2, m', h3, he, v', h4, ((Touch.refl _ w).drew).trans ht, h5⟩
def MutS {α : Type} [Lies α] (w : World) (g : Nat) {o : Nat} (s : Slot o) (T E : TypeId) (v : Value) (l' : List α) (r : Value) (e : Ending) (w' : World) : Prop :=
 e = .returned r /\ ∃ v', HoldsS w' g s T E v' l' /\ Touch (foot g v) w w' /\ ∀ k, v'.ownBlock = some k -> v.ownBlock = some k \/ w.heap.size <= k
theorem MutS.same {α : Type} [Lies α] {w : World} {g o : Nat} {s : Slot o} {T E : TypeId} {v : Value} {l : List α} {r : Value} {e : Ending} {w' : World} (h : HoldsS w g s T E v l) (he : e = .returned r) (hx : Ext w w') : MutS w g s T E v l r e w' :=
 ⟨he, v, h.ext hx, hx.mono fun _ hk => hk.elim, fun _ hk => .inl hk⟩
theorem MutS.moves {α : Type} [Lies α] {w w' : World} {F : Nat -> Prop} {g o : Nat} {s : Slot o} {T E : TypeId} {v r : Value} {l' : List α} {e : Ending} (hF : ∀ k, F k ↔ foot g v k) (h : MutS w g s T E v l' r e w') : Moves (repHoldsS g s T E) w F l' r e w' := by
 obtain ⟨he, v', h1, h2, h3⟩ := h;refine ⟨he, foot g v', ⟨v', fun k => Iff.rfl, h1⟩, h2.mono fun k hk => .inl ((hF k).2 hk), fun k hk => ?_⟩;rcases hk with rfl | hk
 ·exact .inl ((hF _).2 (.inl rfl))
 ·rcases h3 k hk with h | h
  ·exact .inl ((hF k).2 (.inr h))
  ·exact .inr h
theorem mutS_of_send {w : World} {g o : Nat} {s : Slot o} {v : Value} {l : List Packet} {m : Packet} (h : HoldsS w g s 73 103 v l) {e : Ending} {w' : World} (hs : SendS w g s v l m e w') : MutS w g s 73 103 v (pSend l m).2 (.bool (pSend l m).1) e w' := by
 unfold SendS at hs;unfold pSend;split at hs
 ·rename_i hl;rw [if_pos hl];exact hs
 ·rename_i hl;rw [if_neg hl];exact MutS.same h hs.1 hs.2
theorem mutS_of_take {w : World} {g o : Nat} {s : Slot o} {v : Value} {l : List Packet} {n : Int} (h : HoldsS w g s 73 103 v l) {e : Ending} {w' : World} (hs : TakeS w g s v l n e w') : MutS w g s 73 103 v (pTake l n).2.2 (.tuple #[.agg (pTake l n).1.cells, .bool (pTake l n).2.1]) e w' := by
 unfold pTake;rcases hs with ⟨rfl, he, hx⟩ | ⟨m, hm, he, hs⟩
 ·exact MutS.same h he hx
 ·rw [hm];exact ⟨he, hs⟩
theorem mutS_of_double {w : World} {g o : Nat} {s : Slot o} {v : Value} {l : List Packet} {n : Int} (h : HoldsS w g s 73 103 v l) {e : Ending} {w' : World} (hs : DoubleS w g s v l n e w') : MutS w g s 73 103 v (pDouble l n).2 (.bool (pDouble l n).1) e w' := by
 unfold pDouble;rcases hs with ⟨hl, he, hx⟩ | ⟨hp, hl, m, hm, he, hs⟩
 ·split
  ·rename_i m hm
   have : 0 < l.length := by
    have := (lG hm).1; omega
   unfold pSend;rw [if_neg (fun h => hl ⟨this, h⟩)];exact MutS.same h he hx
  ·exact MutS.same h he hx
 ·rw [hm];simp only [pSend, if_pos hl];exact ⟨he, hs⟩
abbrev repBagS (g o : Nat) (s : Slot o) : Rep (List Packet) := repHoldsS g s 73 103
theorem bagS_send' (w : World) (F : Nat -> Prop) (g o : Nat) (s : Slot o) (l : List Packet) (m : Packet) (h : (repBagS g o s).on w F l) :
 Calls Tryz.prog 69 #[.pointer (some ⟨g, o, none⟩), .agg m.cells] w (Moves (repBagS g o s) w F (pSend l m).2 (.bool (pSend l m).1)) := by
 obtain ⟨v, hF, h⟩ := h;exact (bagS_send w g o s v l m h).mono fun _ _ hs => MutS.moves hF (mutS_of_send h hs)
theorem bagS_take' (w : World) (F : Nat -> Prop) (g o : Nat) (s : Slot o) (l : List Packet) (n : Int) (h : (repBagS g o s).on w F l) (hl : l.length <= 40) :
 Calls Tryz.prog 66 #[.pointer (some ⟨g, o, none⟩), .int .i64 n] w (Moves (repBagS g o s) w F (pTake l n).2.2 (.tuple #[.agg (pTake l n).1.cells, .bool (pTake l n).2.1])) := by
 obtain ⟨v, hF, h⟩ := h;exact (bagS_take w g o s v l n h hl).mono fun _ _ hs => MutS.moves hF (mutS_of_take h hs)
theorem bagS_double' (w : World) (F : Nat -> Prop) (g o : Nat) (s : Slot o) (l : List Packet) (n : Int) (h : (repBagS g o s).on w F l) (hl : l.length <= 40) :
 Calls Tryz.prog 112 #[.pointer (some ⟨g, o, none⟩), .int .i64 n] w (Moves (repBagS g o s) w F (pDouble l n).2 (.bool (pDouble l n).1)) := by
 obtain ⟨v, hF, h⟩ := h;exact (bagS_double w g o s v l n h hl).mono fun _ _ hs => MutS.moves hF (mutS_of_double h hs)
theorem Moved.map {X X' : Type} {R : Rep X} {R' : Rep X'} {w w' : World} {F : Nat -> Prop} {x : X} {x' : X'} (h : Moved R w F x w') (hc : ∀ F, R.on w' F x -> R'.on w' F x') : Moved R' w F x' w' := by
 obtain ⟨F', h1, h2, h3⟩ := h;exact ⟨F', hc _ h1, h2, h3⟩
section
variable {X Y Z V U : Type} {R : Rep X} {S : Rep Y} {O : Rep Z} {P : Rep V} {Q : Rep U} {w : World} {F : Nat -> Prop} {x : X} {y : Y} {z : Z} {v : V} {u : U}
theorem rot3 (h : (((R.and S).and O).and P).on w F (((x, y), z), v)) : (((R.and P).and S).and O).on w F (((x, v), y), z) := Rep.cg (fun _ h => Rep.ex h) (Rep.ex h)
theorem rot3' (h : (((R.and P).and S).and O).on w F (((x, v), y), z)) : (((R.and S).and O).and P).on w F (((x, y), z), v) := Rep.ex (Rep.cg (fun _ h => Rep.ex h) h)
theorem rot4 (h : ((((R.and S).and O).and P).and Q).on w F ((((x, y), z), v), u)) : ((((R.and Q).and S).and O).and P).on w F ((((x, u), y), z), v) := Rep.cg (fun _ h => rot3 h) (Rep.ex h)
theorem rot4' (h : ((((R.and Q).and S).and O).and P).on w F ((((x, u), y), z), v)) : ((((R.and S).and O).and P).and Q).on w F ((((x, y), z), v), u) := Rep.ex (Rep.cg (fun _ h => rot3' h) h)
end
section
variable {X Y Z V U T' : Type} {R : Rep X} {S : Rep Y} {O : Rep Z} {P : Rep V} {Q : Rep U} {K : Rep T'} {w : World} {F : Nat -> Prop} {x : X} {y : Y} {z : Z} {v : V} {u : U} {k : T'}
theorem rot5 (h : (((((R.and S).and O).and P).and Q).and K).on w F (((((x, y), z), v), u), k)) : (((((R.and K).and S).and O).and P).and Q).on w F (((((x, k), y), z), v), u) := Rep.cg (fun _ h => rot4 h) (Rep.ex h)
theorem rot5' (h : (((((R.and K).and S).and O).and P).and Q).on w F (((((x, k), y), z), v), u)) : (((((R.and S).and O).and P).and Q).and K).on w F (((((x, y), z), v), u), k) := Rep.ex (Rep.cg (fun _ h => rot4' h) h)
theorem first4 (h : ((((R.and O).and P).and Q).and K).on w F ((((x, z), v), u), k)) : ∃ F', R.on w F' x /\ ∀ x' w', Moved R w F' x' w' -> Moved ((((R.and O).and P).and Q).and K) w F ((((x', z), v), u), k) w' := by
 obtain ⟨F4, h4, m4⟩ := Rep.fst h;obtain ⟨F3, h3, m3⟩ := Rep.fst h4;obtain ⟨F2, h2, m2⟩ := Rep.fst h3;obtain ⟨F1, h1, m1⟩ := Rep.fst h2;exact ⟨F1, h1, fun x' w' m => m4 _ _ (m3 _ _ (m2 _ _ (m1 _ _ m)))⟩
end
abbrev BH (g : Nat) : Rep (Array Value) := repBlock g 73
abbrev OR : Rep (Value × List Record) := repOwn 112
abbrev OP : Rep (Value × List Packet) := repOwn 103
theorem part_guest {g o : Nat} {s : Slot o} {w : World} {F : Nat -> Prop} {v : Value} {x : Guest} (h : ((BH g).and OR).on w F (s.fill (x.cells v), (v, x.done))) : (repGuestS g o s).on w F x := by
 obtain ⟨F1, G, h1, h2, _, hH⟩ := h;refine ⟨v, fun k => (hH k).trans ⟨fun h => ?_, fun h => ?_⟩, ⟨h1.2, h2.2⟩⟩
 ·rcases h with h | h
  ·exact .inl ((h1.1 k).1 h)
  ·exact .inr ((h2.1 k).1 h)
 ·rcases h with h | h
  ·exact .inl ((h1.1 k).2 h)
  ·exact .inr ((h2.1 k).2 h)
theorem guest_part {g o : Nat} {s : Slot o} {w : World} {F : Nat -> Prop} {x : Guest} (h : (repGuestS g o s).on w F x) : ∃ v, ((BH g).and OR).on w F (s.fill (x.cells v), (v, x.done)) := by
 obtain ⟨v, hF, hh⟩ := h;refine ⟨v, fun k => k = g, fun k => v.ownBlock = some k, ⟨fun _ => Iff.rfl, hh.cell⟩, ⟨fun _ => Iff.rfl, hh.own⟩, fun k hk hg => ?_, hF⟩;subst hk;exact hh.own.elem hh.cell (by decide) hg
def hCells (vs v0 v1 v2 vb : Value) (G : Nat -> Guest) : Array Value := #[vs] ++ (G 0).cells v0 ++ (G 1).cells v1 ++ (G 2).cells v2 ++ #[vb]
abbrev HR (g : Nat) : Rep (((((Array Value × (Value × List Record)) × (Value × List Record)) × (Value × List Record)) × (Value × List Record)) × (Value × List Packet)) :=
 (((((BH g).and OR).and OR).and OR).and OR).and OP
def repHouse (g : Nat) : Rep House where
 on w F h := ∃ vs v0 v1 v2 vb, (HR g).on w F (((((hCells vs v0 v1 v2 vb h.G, (vs, h.S)), (v0, (h.G 0).done)), (v1, (h.G 1).done)), (v2, (h.G 2).done)), (vb, h.bag))
 lt := by
  rintro w F h ⟨vs, v0, v1, v2, vb, hh⟩;exact (HR g).lt hh
 keep := by
  rintro w w' F h ⟨vs, v0, v1, v2, vb, hh⟩ hk;exact ⟨vs, v0, v1, v2, vb, (HR g).keep hh hk⟩
def slS (_vs v0 v1 v2 vb : Value) (G : Nat -> Guest) : Slot 0 := ⟨#[], (G 0).cells v0 ++ (G 1).cells v1 ++ (G 2).cells v2 ++ #[vb], rfl⟩
def sl0 (vs _v0 v1 v2 vb : Value) (G : Nat -> Guest) : Slot 1 := ⟨#[vs], (G 1).cells v1 ++ (G 2).cells v2 ++ #[vb], rfl⟩
def sl1 (vs v0 _v1 v2 vb : Value) (G : Nat -> Guest) : Slot 9 := ⟨#[vs] ++ (G 0).cells v0, (G 2).cells v2 ++ #[vb], by simp⟩
def sl2 (vs v0 v1 _v2 vb : Value) (G : Nat -> Guest) : Slot 17 := ⟨#[vs] ++ (G 0).cells v0 ++ (G 1).cells v1, #[vb], by simp⟩
def slB (vs v0 v1 v2 _vb : Value) (G : Nat -> Guest) : Slot 25 := ⟨#[vs] ++ (G 0).cells v0 ++ (G 1).cells v1 ++ (G 2).cells v2, #[], by simp⟩
section
variable (vs v0 v1 v2 vb : Value) (G : Nat -> Guest)
theorem slS_fill (u : Value) : (slS vs v0 v1 v2 vb G).fill #[u] = hCells u v0 v1 v2 vb G := by simp [slS, Slot.fill, hCells, Array.append_assoc]
theorem slB_fill (u : Value) : (slB vs v0 v1 v2 vb G).fill #[u] = hCells vs v0 v1 v2 u G := by simp [slB, Slot.fill, hCells, Array.append_assoc]
theorem sl0_fill (u : Value) (x : Guest) : (sl0 vs v0 v1 v2 vb G).fill (x.cells u) = hCells vs u v1 v2 vb (upd G 0 x) := by simp [sl0, Slot.fill, hCells, Array.append_assoc, upd]
theorem sl1_fill (u : Value) (x : Guest) : (sl1 vs v0 v1 v2 vb G).fill (x.cells u) = hCells vs v0 u v2 vb (upd G 1 x) := by simp [sl1, Slot.fill, hCells, Array.append_assoc, upd]
theorem sl2_fill (u : Value) (x : Guest) : (sl2 vs v0 v1 v2 vb G).fill (x.cells u) = hCells vs v0 v1 u vb (upd G 2 x) := by simp [sl2, Slot.fill, hCells, Array.append_assoc, upd]
theorem upd_self (i : Nat) : upd G i (G i) = G := by funext j; unfold upd; split <;> simp_all
end
structure HouseAt (w : World) (g : Nat) (F : Nat -> Prop) (h : House) : Prop where
 chest : ∃ s, ∃ F', (repChestS g 0 s).on w F' h.S /\ ∀ S' w', Moved (repChestS g 0 s) w F' S' w' -> Moved (repHouse g) w F { h with S := S' } w'
 g0 : ∃ s, ∃ F', (repGuestS g 1 s).on w F' (h.G 0) /\ ∀ x w', Moved (repGuestS g 1 s) w F' x w' -> Moved (repHouse g) w F { h with G := upd h.G 0 x } w'
 g1 : ∃ s, ∃ F', (repGuestS g 9 s).on w F' (h.G 1) /\ ∀ x w', Moved (repGuestS g 9 s) w F' x w' -> Moved (repHouse g) w F { h with G := upd h.G 1 x } w'
 g2 : ∃ s, ∃ F', (repGuestS g 17 s).on w F' (h.G 2) /\ ∀ x w', Moved (repGuestS g 17 s) w F' x w' -> Moved (repHouse g) w F { h with G := upd h.G 2 x } w'
 bag : ∃ s, ∃ F', (repBagS g 25 s).on w F' h.bag /\ ∀ b w', Moved (repBagS g 25 s) w F' b w' -> Moved (repHouse g) w F { h with bag := b } w'
theorem house_open {w : World} {g : Nat} {F : Nat -> Prop} {h : House} (hh : (repHouse g).on w F h) : HouseAt w g F h := by
 obtain ⟨vs, v0, v1, v2, vb, h5⟩ := hh;refine ⟨?_, ?_, ?_, ?_, ?_⟩
 ·obtain ⟨F', a1, a2⟩ := first4 h5;refine ⟨slS vs v0 v1 v2 vb h.G, F', (parts_holdsS (v := vs) (by rw [slS_fill]; exact a1)).1, fun S' w' m => ?_⟩;obtain ⟨F2, b1, b2, b3⟩ := m;obtain ⟨u, hu⟩ := holdsS_parts b1 (by decide);rw [slS_fill] at hu;exact (a2 _ _ ⟨F2, hu, b2, b3⟩).map fun F'' hx => ⟨u, v0, v1, v2, vb, hx⟩
 ·have h5' := Rep.cg (fun _ h => Rep.cg (fun _ h => Rep.cg (fun _ h => Rep.ex h) h) h) h5;obtain ⟨F', a1, a2⟩ := first4 h5';refine ⟨sl0 vs v0 v1 v2 vb h.G, F', part_guest (v := v0) (by rw [sl0_fill, upd_self]; exact a1), fun x w' m => ?_⟩;obtain ⟨F2, b1, b2, b3⟩ := m;obtain ⟨u, hu⟩ := guest_part b1;rw [sl0_fill] at hu;exact (a2 _ _ ⟨F2, hu, b2, b3⟩).map fun F'' hx => ⟨vs, u, v1, v2, vb, Rep.cg (fun _ h => Rep.cg (fun _ h => Rep.cg (fun _ h => Rep.ex h) h) h) hx⟩
 ·have h5' := Rep.cg (fun _ h => Rep.cg (fun _ h => rot3 h) h) h5;obtain ⟨F', a1, a2⟩ := first4 h5';refine ⟨sl1 vs v0 v1 v2 vb h.G, F', part_guest (v := v1) (by rw [sl1_fill, upd_self]; exact a1), fun x w' m => ?_⟩;obtain ⟨F2, b1, b2, b3⟩ := m;obtain ⟨u, hu⟩ := guest_part b1;rw [sl1_fill] at hu;exact (a2 _ _ ⟨F2, hu, b2, b3⟩).map fun F'' hx => ⟨vs, v0, u, v2, vb, Rep.cg (fun _ h => Rep.cg (fun _ h => rot3' h) h) hx⟩
 ·have h5' := Rep.cg (fun _ h => rot4 h) h5;obtain ⟨F', a1, a2⟩ := first4 h5';refine ⟨sl2 vs v0 v1 v2 vb h.G, F', part_guest (v := v2) (by rw [sl2_fill, upd_self]; exact a1), fun x w' m => ?_⟩;obtain ⟨F2, b1, b2, b3⟩ := m;obtain ⟨u, hu⟩ := guest_part b1;rw [sl2_fill] at hu;exact (a2 _ _ ⟨F2, hu, b2, b3⟩).map fun F'' hx => ⟨vs, v0, v1, u, vb, Rep.cg (fun _ h => rot4' h) hx⟩
 ·have h5' := rot5 h5;obtain ⟨F', a1, a2⟩ := first4 h5';refine ⟨slB vs v0 v1 v2 vb h.G, F', (parts_holdsS (v := vb) (by rw [slB_fill]; exact a1)).1, fun b w' m => ?_⟩;obtain ⟨F2, b1, b2, b3⟩ := m;obtain ⟨u, hu⟩ := holdsS_parts b1 (by decide);rw [slB_fill] at hu;exact (a2 _ _ ⟨F2, hu, b2, b3⟩).map fun F'' hx => ⟨vs, v0, v1, v2, u, rot5' hx⟩
end Go.Proofs.YtalfbhhldfffkaaGreatDoor
