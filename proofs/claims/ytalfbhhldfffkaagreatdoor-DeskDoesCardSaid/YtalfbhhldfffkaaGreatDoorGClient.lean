/- Guest2: how a client lies in memory: eight cells, and the records that it owns. No program is walked here. Printed by gen_guest.py. (And behind it: Client, Client2, Client3, Client4.) -/
import Derived.Test.YtalfbhhldfffkaaGreatDoorGPlain
import Derived.Test.YtalfbhhldfffkaaGreatDoorGBasis
import Derived.Test.YtalfbhhldfffkaaGreatDoorTypes
import Derived.Deep.RegionHeld3
import Derived.Deep.RegionLaw
import Derived.Test.YtalfbhhldfffkaaGreatDoorGCheck
import Derived.BigRegion
set_option maxHeartbeats 8000000
set_option maxRecDepth 100000
namespace Go.Proofs.YtalfbhhldfffkaaGreatDoor
open Go.RowKit
def Guest.cells (g : Guest) (v : Value) : Array Value := #[.int .i64 g.me, .int .i64 g.no, .int .i64 g.call.kind, .string g.call.name, .string g.call.to_, .string g.call.text, .bool g.isOpen, v]
@[go_sem, simp] theorem Guest.size_cells (g : Guest) (v : Value) : (g.cells v).size = 8 := by cases g; rfl
@[go_sem, simp] theorem Guest.get0 (g : Guest) (v : Value) : (g.cells v)[0]? = some (.int .i64 g.me) := by cases g; rfl
@[go_sem, simp] theorem Guest.gete0 (g : Guest) (v : Value) (h : 0 < (g.cells v).size) : (g.cells v)[0] = .int .i64 g.me := by cases g; rfl
@[go_sem, simp] theorem Guest.get1 (g : Guest) (v : Value) : (g.cells v)[1]? = some (.int .i64 g.no) := by cases g; rfl
@[go_sem, simp] theorem Guest.gete1 (g : Guest) (v : Value) (h : 1 < (g.cells v).size) : (g.cells v)[1] = .int .i64 g.no := by cases g; rfl
@[go_sem, simp] theorem Guest.get2 (g : Guest) (v : Value) : (g.cells v)[2]? = some (.int .i64 g.call.kind) := by cases g; rfl
@[go_sem, simp] theorem Guest.gete2 (g : Guest) (v : Value) (h : 2 < (g.cells v).size) : (g.cells v)[2] = .int .i64 g.call.kind := by cases g; rfl
@[go_sem, simp] theorem Guest.get3 (g : Guest) (v : Value) : (g.cells v)[3]? = some (.string g.call.name) := by cases g; rfl
@[go_sem, simp] theorem Guest.gete3 (g : Guest) (v : Value) (h : 3 < (g.cells v).size) : (g.cells v)[3] = .string g.call.name := by cases g; rfl
@[go_sem, simp] theorem Guest.get4 (g : Guest) (v : Value) : (g.cells v)[4]? = some (.string g.call.to_) := by cases g; rfl
@[go_sem, simp] theorem Guest.gete4 (g : Guest) (v : Value) (h : 4 < (g.cells v).size) : (g.cells v)[4] = .string g.call.to_ := by cases g; rfl
@[go_sem, simp] theorem Guest.get5 (g : Guest) (v : Value) : (g.cells v)[5]? = some (.string g.call.text) := by cases g; rfl
@[go_sem, simp] theorem Guest.gete5 (g : Guest) (v : Value) (h : 5 < (g.cells v).size) : (g.cells v)[5] = .string g.call.text := by cases g; rfl
@[go_sem, simp] theorem Guest.get6 (g : Guest) (v : Value) : (g.cells v)[6]? = some (.bool g.isOpen) := by cases g; rfl
@[go_sem, simp] theorem Guest.gete6 (g : Guest) (v : Value) (h : 6 < (g.cells v).size) : (g.cells v)[6] = .bool g.isOpen := by cases g; rfl
@[go_sem, simp] theorem Guest.get7 (g : Guest) (v : Value) : (g.cells v)[7]? = some v := by cases g; rfl
@[go_sem, simp] theorem Guest.gete7 (g : Guest) (v : Value) (h : 7 < (g.cells v).size) : (g.cells v)[7] = v := by cases g; rfl
@[go_sem, simp] theorem Guest.ext_call (g : Guest) (v : Value) : (g.cells v).extract 2 6 = g.call.cells := by simp [Guest.cells, Call.cells]
@[go_sem, simp] theorem Guest.set0 (g : Guest) (v : Value) (x : Int) : (g.cells v).setIfInBounds 0 (.int .i64 x) = Guest.cells { g with me := x } v := by cases g; rfl
@[go_sem, simp] theorem Guest.set1 (g : Guest) (v : Value) (x : Int) : (g.cells v).setIfInBounds 1 (.int .i64 x) = Guest.cells { g with no := x } v := by cases g; rfl
@[go_sem, simp] theorem Guest.set6 (g : Guest) (v : Value) (x : Bool) : (g.cells v).setIfInBounds 6 (.bool x) = Guest.cells { g with isOpen := x } v := by cases g; rfl
@[go_sem, simp] theorem Guest.set7 (g : Guest) (v u : Value) : (g.cells v).setIfInBounds 7 u = g.cells u := by cases g; rfl
@[go_sem, simp] theorem Guest.splice_call (g : Guest) (v : Value) (x : Call) : splice (g.cells v) x.cells 2 = Guest.cells { g with call := x } v := by simp [splice, Guest.cells, Call.cells]
structure GuestAt (w : World) (g : Nat) (T E : TypeId) (v : Value) (x : Guest) : Prop where
 cell : w.heap[g]? = some (.cells (x.cells v) T (0, 0))
 own : Owns w E v x.done
theorem GuestAt.lt {w : World} {g : Nat} {T E : TypeId} {v : Value} {x : Guest} (h : GuestAt w g T E v x) : g < w.heap.size := (aG h.cell).1
theorem GuestAt.ext {w w' : World} {g : Nat} {T E : TypeId} {v : Value} {x : Guest} (h : GuestAt w g T E v x) (hx : Ext w w') : GuestAt w' g T E v x :=
 ⟨by rw [hx.block g h.lt id]; exact h.cell, h.own.touch hx fun _ _ => id⟩
def repGuest (g : Nat) (T E : TypeId) : Rep Guest where
 on w F x := ∃ v, (∀ k, F k ↔ foot g v k) /\ GuestAt w g T E v x
 lt := by
  rintro w F x ⟨v, hF, h⟩ k hk;rcases (hF k).1 hk with rfl | h1
  ·exact h.lt
  ·exact h.own.lt k h1
 keep := by
  rintro w w' F x ⟨v, hF, h⟩ hk;exact ⟨v, hF, by rw [hk g ((hF g).2 (.inl rfl))]; exact h.cell, h.own.keep fun k hk' => hk k ((hF k).2 (.inr hk'))⟩
theorem GuestAt.turned {w w' : World} {F : Nat -> Prop} {g : Nat} {T E : TypeId} {v : Value} {x y : Guest} (h : GuestAt w g T E v x) (hne : E ≠ T) (hF : ∀ k, F k ↔ foot g v k) (hc : w'.heap[g]? = some (.cells (y.cells v) T (0, 0)))
 (ht : Touch (fun k => k = g) w w') (hd : y.done = x.done) : Moved (repGuest g T E) w F y w' := by
 refine ⟨F, ⟨v, hF, hc, ?_⟩, ht.mono fun k hk => .inl ((hF k).2 (.inl hk)), Fresh.refl _ _⟩;rw [hd];exact h.own.touch ht fun k hk e => h.own.elem h.cell hne (e ▸ hk)
theorem GuestAt.appended {w wx w1 w' : World} {F : Nat -> Prop} {g : Nat} {T E : TypeId} {v v' : Value} {x y : Guest} (h : GuestAt w g T E v x) (hF : ∀ k, F k ↔ foot g v k) (hx : Ext w wx) (hne : E ≠ T)
 (hown : Owns w1 E v' y.done) (hgrow : wx.grownBy w1 v.ownBlock) (hat : v'.ownBlock = v.ownBlock \/ v'.ownBlock = some wx.heap.size)
 (ht : Touch (fun k => k = g) w1 w') (hc : w'.heap[g]? = some (.cells (y.cells v') T (0, 0))) : Moved (repGuest g T E) w F y w' := by
 have hlt := h.lt
 have hg1 : v'.ownBlock ≠ some g := by
  rcases hat with h1 | h1
  ·rw [h1]; exact h.own.elem h.cell hne
  ·rw [h1]; intro e; injection e with e; have := hx.size; omega
 refine ⟨foot g v', ⟨v', fun k => Iff.rfl, hc, hown.touch ht fun k hk e => hg1 (e ▸ hk)⟩, ?_, fun k hk => ?_⟩
 ·exact ((hx.mono (S := F) fun k hk => hk.elim).grown hgrow fun k hk => .inl ((hF k).2 (.inr hk))).then ht fun k hk => .inl ((hF k).2 (.inl hk))
 ·rcases hk with rfl | hk
  ·exact .inl ((hF _).2 (.inl rfl))
  ·rcases hat with h1 | h1
   ·exact .inl ((hF k).2 (.inr (by rw [<- h1]; exact hk)))
   ·rw [h1] at hk; injection hk with hk; exact .inr (by have := hx.size; omega)
theorem client_new_yes (w : World) (me : Int) (h : 0 <= me /\ me < 3) :
 Calls Tryz.prog 21 #[.int .i64 me] w fun e w' => e = .returned (.pointer (some ⟨w.heap.size, 0, none⟩)) /\ w.alloc (.cells ((gNew me).cells (.slice none 0 0)) 119) = w' := by
 obtain ⟨h0, h1⟩ := h;have h0' : ¬ me < 0 := by omega
 have h1' : ¬ 3 <= me := by omega
 go_enter Tryz.func21, Tryz.ntmps21
 go_wp2
 go_ret
 exact ⟨rfl, rfl⟩
theorem client_open (w : World) (g : Nat) (v : Value) (x : Guest) (h : GuestAt w g 119 112 v x) :
 Calls Tryz.prog 93 #[.pointer (some ⟨g, 0, none⟩)] w fun e w' => e = .returned (.bool x.isOpen) /\ w = w' := by
 have hc := cell_of h.cell 6;clear h;go_enter Tryz.func93, Tryz.ntmps93
 go_wp2
 go_ret
 exact ⟨rfl, rfl⟩
def SendGuest (w : World) (x : Guest) (e : Ending) (w' : World) : Prop := e = .returned (.tuple #[.agg (gSend x).1.cells, .bool (gSend x).2]) /\ Ext w w'
theorem client_send (w : World) (g : Nat) (v : Value) (x : Guest) (h : GuestAt w g 119 112 v x) :
 Calls Tryz.prog 126 #[.pointer (some ⟨g, 0, none⟩)] w (SendGuest w x) := by
 have hg := h.cell;obtain ⟨hlt, hg'⟩ := aG h.cell;by_cases ho : x.isOpen = true
 ·have hc : w.cell? ⟨g, 6, none⟩ = some (.bool true) := by rw [cell_of h.cell 6, Guest.get6, ho]
  have hc0 : w.cell? ⟨g, 0, none⟩ = some (.int .i64 x.me) := by rw [cell_of h.cell 0, Guest.get0]
  have hc1 : w.cell? ⟨g, 1, none⟩ = some (.int .i64 x.no) := by rw [cell_of h.cell 1, Guest.get1]
  have HO := lh ho;clear ho h;go_enter Tryz.func126, Tryz.ntmps126
  go_wp2
  go_region
  all_goals
   go_wp2
   refine bodyPost_ret (results_cell_tmp rfl _ _ ⟨w.heap.size, 0, none⟩ (.agg (gSend x).1.cells) rfl ?_) rfl ?_
   ·unfold gSend;rw [if_pos HO.out];exact load_block isPacket (by simp only [heap_drew']; exact heap_alloc_new _ _)
   ·unfold SendGuest gSend;rw [if_pos HO.out];exact ⟨rfl, ((Touch.refl _ w).alloc _).drew⟩
 ·have ho' : x.isOpen = false := by simpa using ho
  have hc : w.cell? ⟨g, 6, none⟩ = some (.bool false) := by rw [cell_of h.cell 6, Guest.get6, ho']
  have HO := lh ho;clear ho ho' h;go_enter Tryz.func126, Tryz.ntmps126
  go_wp2
  refine bodyPost_ret (results_cell_tmp rfl _ _ ⟨w.heap.size, 0, none⟩ (.agg (gSend x).1.cells) rfl ?_) rfl ?_
  ·unfold gSend;rw [if_neg HO.out];exact load_block isPacket (heap_alloc_new _ _)
  ·unfold SendGuest gSend;rw [if_neg HO.out];exact ⟨rfl, (Touch.refl _ w).alloc _⟩
theorem clone_records (w : World) (B : Nat) (A : Option Addr) (c : Nat) (l : List Record) (hr : Reads w B A l) (hB : B <= w.heap.size) (hn : A = none -> l = []) (hl : l.length <= 100000) :
 Calls Tryz.prog 137 #[.slice A l.length c] w (NewList w 112 l) := by
 rcases A with _ | ad
 ·have h0 := hn rfl;subst h0;go_enter Tryz.func137, Tryz.ntmps137
  go_wp2
  go_ret
  exact ⟨none, 0, rfl, Owns.nil _ _, Touch.refl _ _, fun k hk => by simp [Value.ownBlock] at hk⟩
 ·have HR := lh hr;have HB := lh hB;clear hr hn hB;go_enter Tryz.func137, Tryz.ntmps137
  go_wp2_with (at_builtin; refine wpList_append_own' (by rfl) (.tmp 5) (.tmp 6) 62 (by rfl) elemRecord Tryz.underlying62 (v := .slice (some ⟨w.heap.size, 0, none⟩) 0 0) (l := []) (by rfl) (own_empty (heap_alloc_new _ _)) l (by rfl) l.length (by simp) (by rfl) (HR.out.below fun k hk => Below.heap_alloc _ _ _ (Nat.lt_of_lt_of_le hk HB.out)) (by simp; omega) ?_
               intro A1 c1 w1 hown1 hgrow1 hat1)
  go_ret
  simp only [List.nil_append] at hown1;exact ⟨A1, c1, rfl, hown1, ((Touch.refl _ w).alloc _).grown hgrow1 (fun k hk => by simp [Value.ownBlock] at hk; omega), fun k hk => by rcases hat1 with h1 | h1 <;> rw [h1] at hk <;> simp [Value.ownBlock] at hk <;> omega⟩
theorem client_done (w : World) (g : Nat) (v : Value) (x : Guest) (h : GuestAt w g 119 112 v x) (hl : x.done.length <= 100000) :
 Calls Tryz.prog 97 #[.pointer (some ⟨g, 0, none⟩)] w (NewList w 112 x.done) := by
 obtain ⟨A, c, rfl, hc, hcm, hr⟩ := h.own.form;have hc7 : w.cell? ⟨g, 7, none⟩ = some (.slice A x.done.length c) := by rw [cell_of h.cell 7, Guest.get7]
 have hnil := lh (fun (e : A = none) => (show x.done = [] by subst e; exact h.own.none_nil));have HR := lh hr;clear h hr;go_enter Tryz.func97, Tryz.ntmps97
 go_wp2_with (go_at_call 137; refine (clone_records w w.heap.size A c x.done HR.out (Nat.le_refl _) hnil.out hl).mono ?_; rintro e w' ⟨A1, c1, rfl, ho, he, hf⟩)
 go_ret
 exact ⟨A1, c1, rfl, ho, he, hf⟩
theorem Touch.setCell_at {g : Nat} {w w' : World} (h : Touch (fun k => k = g) w w') (o : Nat) (v : Value) : Touch (fun k => k = g) w (w'.setCell ⟨g, o, none⟩ v) := h.setCell (.inl rfl) v
theorem Touch.setRow_at {g : Nat} {w w' : World} (h : Touch (fun k => k = g) w w') (cs : Array Value) : Touch (fun k => k = g) w (w'.setRow g cs) := h.setRow (.inl rfl) cs
def GuestTurn (w : World) (g : Nat) (T : TypeId) (v : Value) (y : Guest) (r : Value) (e : Ending) (w' : World) : Prop :=
 e = .returned r /\ w'.heap[g]? = some (.cells (y.cells v) T (0, 0)) /\ Touch (fun k => k = g) w w'
theorem GuestTurn.same {w w' : World} {g : Nat} {T : TypeId} {v : Value} {x : Guest} {r : Value} {e : Ending} (hg : w.heap[g]? = some (.cells (x.cells v) T (0, 0))) (he : e = .returned r) (hx : Ext w w') : GuestTurn w g T v x r e w' :=
 ⟨he, (hx.block g (aG hg).1 id).trans hg, hx.mono fun _ h => h.elim⟩
theorem client_call (w : World) (g : Nat) (v : Value) (x : Guest) (c : Call) (h : GuestAt w g 119 112 v x) (hno : 0 <= x.no /\ x.no <= 200) (h1 : c.name.size <= 140737488351232) (h2 : c.to_.size <= 140737488351232) (h3 : c.text.size <= 140737488351232) :
 Calls Tryz.prog 86 #[.pointer (some ⟨g, 0, none⟩), .agg c.cells] w (GuestTurn w g 119 v (gAsk x c).2 (.int .i64 (gAsk x c).1)) := by
 obtain ⟨hlt, hg'⟩ := aG h.cell;have hg := h.cell;have hc6 : w.cell? ⟨g, 6, none⟩ = some (.bool x.isOpen) := by rw [cell_of h.cell 6, Guest.get6]
 have hc1 : w.cell? ⟨g, 1, none⟩ = some (.int .i64 x.no) := by rw [cell_of h.cell 1, Guest.get1]
 have hf := fun o => frozen_of h.cell o;have HG := lh h.cell;obtain ⟨hno0, hno1⟩ := hno;clear h;by_cases hcode : callCode c ≠ 0
 ·have hcb : (callCode c != 0) = true := bne_iff_ne.2 hcode;have HC := lh hcode;clear hcode;go_enter Tryz.func86, Tryz.ntmps86
  go_wp2_with (go_at_call 51; refine (files_check _ c h1 h2 h3).mono ?_; rintro e w1 ⟨rfl, rfl⟩)
  go_ret
  unfold GuestTurn gAsk;rw [if_pos HC.out];exact GuestTurn.same HG.out rfl (by repeat (first | exact Touch.refl _ _ | refine Touch.alloc ?_ _ | refine Touch.drew ?_))
 have hcode' : callCode c = 0 := by simpa using hcode
 have hcb : (callCode c != 0) = false := bne_eq_false_iff_eq.2 hcode';have HC := lh hcode;clear hcode hcode';by_cases ho : x.isOpen = true
 ·have HO := lh ho;rw [ho] at hc6;clear ho;go_enter Tryz.func86, Tryz.ntmps86
  go_wp2_with (go_at_call 51; refine (files_check _ c h1 h2 h3).mono ?_; rintro e w1 ⟨rfl, rfl⟩)
  go_ret
  unfold gAsk;rw [if_neg HC.out, if_pos HO.out];exact GuestTurn.same HG.out rfl (by repeat (first | exact Touch.refl _ _ | refine Touch.alloc ?_ _ | refine Touch.drew ?_))
 have ho' : x.isOpen = false := by simpa using ho
 have HO := lh ho;rw [ho'] at hc6;clear ho ho';by_cases hn : 200 <= x.no
 ·have HN := lh hn;go_enter Tryz.func86, Tryz.ntmps86
  go_wp2_with (go_at_call 51; refine (files_check _ c h1 h2 h3).mono ?_; rintro e w1 ⟨rfl, rfl⟩)
  go_ret
  unfold gAsk;rw [if_neg HC.out, if_neg HO.out, if_pos HN.out];exact GuestTurn.same HG.out rfl (by repeat (first | exact Touch.refl _ _ | refine Touch.alloc ?_ _ | refine Touch.drew ?_))
 ·have HN := lh hn;go_enter Tryz.func86, Tryz.ntmps86
  go_wp2_with (go_at_call 51; refine (files_check _ c h1 h2 h3).mono ?_; rintro e w1 ⟨rfl, rfl⟩)
  skip
  go_ret
  unfold gAsk;rw [if_neg HC.out, if_neg HO.out, if_neg (by have := HN.out; omega)];refine ⟨rfl, ?_, ?_⟩
  ·simp [go_sem, hg', hlt]
  ·repeat (first | exact Touch.refl _ _ | refine Touch.alloc ?_ _ | refine Touch.drew ?_ | refine Touch.setCell_at ?_ _ _ | refine Touch.setRow_at ?_ _)
def HearGuest (w : World) (g : Nat) (T : TypeId) (v : Value) (x : Guest) (p : Packet) (e : Ending) (w' : World) : Prop :=
 e = .returned (.bool (gHear x p).1) /\ ∀ F, (∀ k, F k ↔ foot g v k) -> Moved (repGuest g T 112) w F (gHear x p).2 w'
theorem HearGuest.no {w w' : World} {g : Nat} {T : TypeId} {v : Value} {x : Guest} {p : Packet} {e : Ending} (h : GuestAt w g T 112 v x) (hn : ¬ gHears x p) (he : e = .returned (.bool false)) (hx : Ext w w') : HearGuest w g T v x p e w' := by
 unfold HearGuest gHear;rw [if_neg hn];exact ⟨he, fun F hF => Rep.moved (R := repGuest g T 112) ⟨v, hF, h⟩ hx⟩
theorem client_hear_no (w : World) (g : Nat) (v : Value) (x : Guest) (p : Packet) (h : GuestAt w g 119 112 v x) (hn : ¬ gHears x p) :
 Calls Tryz.prog 133 #[.pointer (some ⟨g, 0, none⟩), .agg p.cells] w (HearGuest w g 119 v x p) := by
 obtain ⟨hlt, hg'⟩ := aG h.cell;have hg := h.cell;have hc6 : w.cell? ⟨g, 6, none⟩ = some (.bool x.isOpen) := by rw [cell_of h.cell 6, Guest.get6]
 have hc0 : w.cell? ⟨g, 0, none⟩ = some (.int .i64 x.me) := by rw [cell_of h.cell 0, Guest.get0]
 have hc1 : w.cell? ⟨g, 1, none⟩ = some (.int .i64 x.no) := by rw [cell_of h.cell 1, Guest.get1]
 have HH := lh h;have HN := lh hn;clear h;by_cases ho : x.isOpen = true
 case neg =>
  have ho' : x.isOpen = false := by simpa using ho
  clear hn ho;rw [ho'] at hc6;clear ho';go_enter Tryz.func133, Tryz.ntmps133
  go_wp2
  go_quiet (fail)
  go_wp2
  go_ret
  exact HearGuest.no HH.out HN.out rfl (by repeat (first | exact Touch.refl _ _ | refine Touch.alloc ?_ _ | refine Touch.drew ?_ | refine Touch.drewN ?_ _))
 rw [ho] at hc6;by_cases hr : p.reply = true
 case neg =>
  have hr' : p.reply = false := by simpa using hr
  clear hn ho hr;go_enter Tryz.func133, Tryz.ntmps133
  go_wp2
  go_quiet (fail)
  go_wp2
  go_ret
  exact HearGuest.no HH.out HN.out rfl (by repeat (first | exact Touch.refl _ _ | refine Touch.alloc ?_ _ | refine Touch.drew ?_ | refine Touch.drewN ?_ _))
 by_cases h1 : p.client = x.me
 case neg =>
  have h1a : (p.client == x.me) = false := bF h1;have h1b : (p.client != x.me) = true := bne_iff_ne.2 h1;clear hn ho h1;go_enter Tryz.func133, Tryz.ntmps133
  go_wp2
  go_quiet (fail)
  go_wp2
  go_ret
  exact HearGuest.no HH.out HN.out rfl (by repeat (first | exact Touch.refl _ _ | refine Touch.alloc ?_ _ | refine Touch.drew ?_ | refine Touch.drewN ?_ _))
 have h1a : (p.client == x.me) = true := beq_iff_eq.2 h1;have h1b : (p.client != x.me) = false := bne_eq_false_iff_eq.2 h1;by_cases h2 : p.no = x.no
 case neg =>
  have h2a : (p.no == x.no) = false := bF h2;have h2b : (p.no != x.no) = true := bne_iff_ne.2 h2;clear hn ho h1 h2;go_enter Tryz.func133, Tryz.ntmps133
  go_wp2
  go_quiet (fail)
  go_wp2
  go_ret
  exact HearGuest.no HH.out HN.out rfl (by repeat (first | exact Touch.refl _ _ | refine Touch.alloc ?_ _ | refine Touch.drew ?_ | refine Touch.drewN ?_ _))
 have h2a : (p.no == x.no) = true := beq_iff_eq.2 h2;have h2b : (p.no != x.no) = false := bne_eq_false_iff_eq.2 h2;have h3 : p.call ≠ x.call := fun e => hn ⟨ho, hr, h1, h2, e⟩;have h3a : decide (p.call = x.call) = false := decide_eq_false h3;clear hn ho h1 h2 h3;go_enter Tryz.func133, Tryz.ntmps133
 go_wp2
 go_quiet (fail)
 go_wp2
 go_ret
 exact HearGuest.no HH.out HN.out rfl (by repeat (first | exact Touch.refl _ _ | refine Touch.alloc ?_ _ | refine Touch.drew ?_ | refine Touch.drewN ?_ _))
def appendS (ts : Array TypeId) (ty : TypeId) (vs : Array Value) : Sem Value := Builtin.append_ ts ty vs
theorem append_word (ts : Array TypeId) (ty : TypeId) (vs : Array Value) : Builtin.append_ ts ty vs = appendS ts ty vs := rfl
attribute [local go_sem ↓] append_word
theorem client_hear_yes (w : World) (g : Nat) (v : Value) (x : Guest) (p : Packet) (h : GuestAt w g 119 112 v x) (hy : gHears x p) (hl : x.done.length <= 1000) :
 Calls Tryz.prog 133 #[.pointer (some ⟨g, 0, none⟩), .agg p.cells] w (HearGuest w g 119 v x p) := by
 obtain ⟨A, c, rfl, hcap, hcm, hrd⟩ := h.own.form;have hm := hcm;unfold maxLen at hm;clear hcm hrd;obtain ⟨hlt, hg'⟩ := aG h.cell;have hg := h.cell;have hY := lh hy;obtain ⟨ho, hr, h1, h2, h3⟩ := hy;have hc6 : w.cell? ⟨g, 6, none⟩ = some (.bool true) := by rw [cell_of h.cell 6, Guest.get6, ho]
 have hc0 : w.cell? ⟨g, 0, none⟩ = some (.int .i64 x.me) := by rw [cell_of h.cell 0, Guest.get0]
 have hc1 : w.cell? ⟨g, 1, none⟩ = some (.int .i64 x.no) := by rw [cell_of h.cell 1, Guest.get1]
 have h1a : (p.client == x.me) = true := beq_iff_eq.2 h1;have h1b : (p.client != x.me) = false := bne_eq_false_iff_eq.2 h1;have h2a : (p.no == x.no) = true := beq_iff_eq.2 h2;have h2b : (p.no != x.no) = false := bne_eq_false_iff_eq.2 h2;have h3a : decide (p.call = x.call) = true := decide_eq_true h3;have HH := lh h;clear h h1 h2 h3 ho;go_enter Tryz.func133, Tryz.ntmps133
 go_wp2
 go_quiet (fail)
 go_wp2
 have hx : Ext w ((w.alloc (.cells p.cells 103)).drewN nq) := ((Touch.refl _ _).alloc _).drewN _;have hb : ((w.alloc (.cells p.cells 103)).drewN nq).heap[w.heap.size]? = some (.cells p.cells 103) := heap_alloc_new _ _;generalize (w.alloc (.cells p.cells 103)).drewN nq = w2 at hx hb ⊢;have H2 := HH.out.ext hx;clear hc6 hc0 hc1 hg hg'
 obtain ⟨A1, c1, w1, hrun, hown1, hgrow1, hat1⟩ := run_append_reads (w := (w2.alloc (.cells (gRec x p.answer).cells 112)).drew) elemRecord 62 62 Tryz.underlying62 (Owns.ext H2.own (((Touch.refl _ _).alloc _).drew)) (r := [gRec x p.answer]) (c := 1)
  (reads_block (x := gRec x p.answer) (t := 112) (fr := (0, 0)) (heap_alloc_new _ _) (w2.heap.size + 1) (by omega)) (by simp; omega)
 have hrunS : (appendS #[62, 62] 62 #[.slice A x.done.length c, .slice (some ⟨w2.heap.size, 0, none⟩) 1 1]).run Tryz.prog (w2.alloc (.cells (⟨x.me, x.no, x.call, p.answer⟩ : Record).cells 112)).drew = .ok (.slice A1 (x.done.length + 1) c1) w1 := hrun;clear hrun;have HO1 := lh hown1;have HR1 := lh hgrow1;have HA1 := lh hat1;clear hown1 hgrow1 hat1;obtain ⟨hlt, hg'⟩ := aG H2.cell;have hg := H2.cell;have hc0 : w2.cell? ⟨g, 0, none⟩ = some (.int .i64 x.me) := by rw [cell_of H2.cell 0, Guest.get0]
 have hc1 : w2.cell? ⟨g, 1, none⟩ = some (.int .i64 x.no) := by rw [cell_of H2.cell 1, Guest.get1]
 have hc7 : w2.cell? ⟨g, 7, none⟩ = some (.slice A x.done.length c) := by rw [cell_of H2.cell 7, Guest.get7]
 have hg1 := World.grownBy.blk HR1.out (b := g) (o := .cells (x.cells (.slice A x.done.length c)) 119 (0, 0)) (((Touch.refl (fun _ => False) w2).alloc _).drew.blk H2.cell id) (H2.own.elem H2.cell (by decide));have hc71 : w1.cell? ⟨g, 7, none⟩ = some (.slice A x.done.length c) := by rw [cell_of hg1 7, Guest.get7]
 have hc61 : w1.cell? ⟨g, 6, none⟩ = some (.bool x.isOpen) := by rw [cell_of hg1 6, Guest.get6]
 have hf71 := frozen_of hg1 7;have hf61 := frozen_of hg1 6;have HG1 := lh hg1;have HH2 := lh H2;have HX := lh hx;clear hg1 H2 hx;go_region
 all_goals
  go_wp2
  go_ret
  have e1 : gHear x p = (true, { x with done := x.done ++ [gRec x p.answer], isOpen := false }) := by unfold gHear; rw [if_pos hY.out]
  unfold HearGuest;rw [e1];refine ⟨rfl, fun F hF => GuestAt.appended HH.out hF (wx := (w2.alloc (.cells (gRec x p.answer).cells 112)).drew) ((HX.out.alloc _).drew) (by decide) HO1.out HR1.out HA1.out ?_ ?_⟩
  ·exact Touch.setCell_at (Touch.setCell_at (Touch.refl _ _) _ _) _ _
  ·exact heap_setCell_same _ g 6 _ _ _ (heap_setCell_same _ g 7 _ _ _ HG1.out)
theorem client_ask' (w : World) (F : Nat -> Prop) (g : Nat) (x : Guest) (c : Call) (h : (repGuest g 119 112).on w F x) (hno : 0 <= x.no /\ x.no <= 200) (h1 : c.name.size <= 140737488351232) (h2 : c.to_.size <= 140737488351232) (h3 : c.text.size <= 140737488351232) :
 Calls Tryz.prog 86 #[.pointer (some ⟨g, 0, none⟩), .agg c.cells] w (Moves (repGuest g 119 112) w F (gAsk x c).2 (.int .i64 (gAsk x c).1)) := by
 obtain ⟨v, hF, h⟩ := h;exact (client_call w g v x c h hno h1 h2 h3).mono fun e w' ⟨he, hc, ht⟩ => ⟨he, h.turned (by decide) hF hc ht (gAsk_done x c)⟩
theorem client_hear' (w : World) (F : Nat -> Prop) (g : Nat) (x : Guest) (p : Packet) (h : (repGuest g 119 112).on w F x) (hl : x.done.length <= 1000) :
 Calls Tryz.prog 133 #[.pointer (some ⟨g, 0, none⟩), .agg p.cells] w (Moves (repGuest g 119 112) w F (gHear x p).2 (.bool (gHear x p).1)) := by
 obtain ⟨v, hF, h⟩ := h;by_cases hy : gHears x p
 ·exact (client_hear_yes w g v x p h hy hl).mono fun e w' ⟨he, hm⟩ => ⟨he, hm F hF⟩
 ·exact (client_hear_no w g v x p h hy).mono fun e w' ⟨he, hm⟩ => ⟨he, hm F hF⟩
theorem client_send' (w : World) (F : Nat -> Prop) (g : Nat) (x : Guest) (h : (repGuest g 119 112).on w F x) :
 Calls Tryz.prog 126 #[.pointer (some ⟨g, 0, none⟩)] w (SendGuest w x) := by
 obtain ⟨v, hF, h⟩ := h;exact client_send w g v x h
theorem client_open' (w : World) (F : Nat -> Prop) (g : Nat) (x : Guest) (h : (repGuest g 119 112).on w F x) :
 Calls Tryz.prog 93 #[.pointer (some ⟨g, 0, none⟩)] w fun e w' => e = .returned (.bool x.isOpen) /\ w = w' := by
 obtain ⟨v, hF, h⟩ := h;exact client_open w g v x h
theorem client_done' (w : World) (F : Nat -> Prop) (g : Nat) (x : Guest) (h : (repGuest g 119 112).on w F x) (hl : x.done.length <= 100000) :
 Calls Tryz.prog 97 #[.pointer (some ⟨g, 0, none⟩)] w (NewList w 112 x.done) := by
 obtain ⟨v, hF, h⟩ := h;exact client_done w g v x h hl
end Go.Proofs.YtalfbhhldfffkaaGreatDoor
