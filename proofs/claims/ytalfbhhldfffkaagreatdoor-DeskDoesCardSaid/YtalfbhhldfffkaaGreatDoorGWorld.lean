/- World1: how a world lies in memory: five cells, a store, three clients, a post. No program is walked here. (And behind it: World2, World3, World4, World5, World6, World7.) -/
import Derived.Test.YtalfbhhldfffkaaGreatDoorGStore
import Derived.Test.YtalfbhhldfffkaaGreatDoorGPlain
import Derived.Test.YtalfbhhldfffkaaGreatDoorGClient
import Derived.Test.YtalfbhhldfffkaaGreatDoorGPost
import Derived.Deep.LoopGhost
import Derived.Test.YtalfbhhldfffkaaGreatDoorGBasis
set_option maxHeartbeats 8000000
set_option maxRecDepth 100000
namespace Go.Proofs.YtalfbhhldfffkaaGreatDoor
open Go.RowKit
def worldCells (gs c0 c1 c2 gp : Nat) : Array Value := #[.pointer (some ⟨gs, 0, none⟩), .pointer (some ⟨c0, 0, none⟩), .pointer (some ⟨c1, 0, none⟩), .pointer (some ⟨c2, 0, none⟩), .pointer (some ⟨gp, 0, none⟩)]
abbrev repCl (g : Nat) : Rep Guest := repGuest g 119 112
abbrev repPost (g : Nat) : Rep (List Packet) := repHolds g 117 103
abbrev WR (gw gs c0 c1 c2 gp : Nat) : Rep (((((Array Value × List Record) × Guest) × Guest) × Guest) × List Packet) :=
 (((((repBlock gw 60).and (repStore gs)).and (repCl c0)).and (repCl c1)).and (repCl c2)).and (repPost gp)
def repWorld (gw : Nat) : Rep House where
 on w F h := ∃ gs c0 c1 c2 gp, (WR gw gs c0 c1 c2 gp).on w F (((((worldCells gs c0 c1 c2 gp, h.S), h.G 0), h.G 1), h.G 2), h.bag)
 lt := by
  rintro w F h ⟨gs, c0, c1, c2, gp, hh⟩;exact (WR gw gs c0 c1 c2 gp).lt hh
 keep := by
  rintro w w' F h ⟨gs, c0, c1, c2, gp, hh⟩ hk;exact ⟨gs, c0, c1, c2, gp, (WR gw gs c0 c1 c2 gp).keep hh hk⟩
structure WorldAt (w : World) (gw : Nat) (F : Nat -> Prop) (h : House) (gs c0 c1 c2 gp : Nat) : Prop where
 cell : w.heap[gw]? = some (.cells (worldCells gs c0 c1 c2 gp) 60 (0, 0))
 store : ∃ F', (repStore gs).on w F' h.S /\ ∀ S' w', Moved (repStore gs) w F' S' w' -> Moved (repWorld gw) w F { h with S := S' } w' /\ w'.heap[gw]? = some (.cells (worldCells gs c0 c1 c2 gp) 60 (0, 0))
 cl0 : ∃ F', (repCl c0).on w F' (h.G 0) /\ ∀ g' w', Moved (repCl c0) w F' g' w' -> Moved (repWorld gw) w F { h with G := upd h.G 0 g' } w' /\ w'.heap[gw]? = some (.cells (worldCells gs c0 c1 c2 gp) 60 (0, 0))
 cl1 : ∃ F', (repCl c1).on w F' (h.G 1) /\ ∀ g' w', Moved (repCl c1) w F' g' w' -> Moved (repWorld gw) w F { h with G := upd h.G 1 g' } w' /\ w'.heap[gw]? = some (.cells (worldCells gs c0 c1 c2 gp) 60 (0, 0))
 cl2 : ∃ F', (repCl c2).on w F' (h.G 2) /\ ∀ g' w', Moved (repCl c2) w F' g' w' -> Moved (repWorld gw) w F { h with G := upd h.G 2 g' } w' /\ w'.heap[gw]? = some (.cells (worldCells gs c0 c1 c2 gp) 60 (0, 0))
 post : ∃ F', (repPost gp).on w F' h.bag /\ ∀ b' w', Moved (repPost gp) w F' b' w' -> Moved (repWorld gw) w F { h with bag := b' } w' /\ w'.heap[gw]? = some (.cells (worldCells gs c0 c1 c2 gp) 60 (0, 0))
theorem Moved.wcell {gw gs c0 c1 c2 gp : Nat} {w w' : World} {F : Nat -> Prop} {cs : Array Value} {S : List Record} {g0 g1 g2 : Guest} {b : List Packet} (m : Moved (WR gw gs c0 c1 c2 gp) w F (((((cs, S), g0), g1), g2), b) w') : w'.heap[gw]? = some (.cells cs 60 (0, 0)) := by
 obtain ⟨F', h1, _, _⟩ := m.left.left.left.left.left;exact h1.2
theorem Moved.world {gw gs c0 c1 c2 gp : Nat} {w w' : World} {F : Nat -> Prop} {S : List Record} {g0 g1 g2 : Guest} {b : List Packet} (m : Moved (WR gw gs c0 c1 c2 gp) w F (((((worldCells gs c0 c1 c2 gp, S), g0), g1), g2), b) w') (h : House)
 (e1 : h.S = S) (e2 : h.G 0 = g0) (e3 : h.G 1 = g1) (e4 : h.G 2 = g2) (e5 : h.bag = b) : Moved (repWorld gw) w F h w' /\ w'.heap[gw]? = some (.cells (worldCells gs c0 c1 c2 gp) 60 (0, 0)) := by
 subst e1 e2 e3 e4 e5;refine ⟨?_, m.wcell⟩;obtain ⟨F', h1, h2, h3⟩ := m;exact ⟨F', ⟨gs, c0, c1, c2, gp, h1⟩, h2, h3⟩
theorem world_open {w : World} {gw : Nat} {F : Nat -> Prop} {h : House} (hh : (repWorld gw).on w F h) : ∃ gs c0 c1 c2 gp, WorldAt w gw F h gs c0 c1 c2 gp := by
 obtain ⟨gs, c0, c1, c2, gp, h5⟩ := hh;obtain ⟨F4, h4, m4⟩ := Rep.fst h5;obtain ⟨F3, h3, m3⟩ := Rep.fst h4;obtain ⟨F2, h2, m2⟩ := Rep.fst h3;obtain ⟨F1, h1, m1⟩ := Rep.fst h2;refine ⟨gs, c0, c1, c2, gp, ⟨?_, ?_, ?_, ?_, ?_, ?_⟩⟩
 ·obtain ⟨F0, h0, _⟩ := Rep.fst h1;exact h0.2
 ·obtain ⟨F', a1, a2⟩ := Rep.snd h1;exact ⟨F', a1, fun S' w' m => (m4 _ _ (m3 _ _ (m2 _ _ (m1 _ _ (a2 _ _ m))))).world _ rfl rfl rfl rfl rfl⟩
 ·obtain ⟨F', a1, a2⟩ := Rep.snd h2;exact ⟨F', a1, fun g' w' m => (m4 _ _ (m3 _ _ (m2 _ _ (a2 _ _ m)))).world _ rfl (by simp [upd]) (by simp [upd]) (by simp [upd]) rfl⟩
 ·obtain ⟨F', a1, a2⟩ := Rep.snd h3;exact ⟨F', a1, fun g' w' m => (m4 _ _ (m3 _ _ (a2 _ _ m))).world _ rfl (by simp [upd]) (by simp [upd]) (by simp [upd]) rfl⟩
 ·obtain ⟨F', a1, a2⟩ := Rep.snd h4;exact ⟨F', a1, fun g' w' m => (m4 _ _ (a2 _ _ m)).world _ rfl (by simp [upd]) (by simp [upd]) (by simp [upd]) rfl⟩
 ·obtain ⟨F', a1, a2⟩ := Rep.snd h5;exact ⟨F', a1, fun b' w' m => (a2 _ _ m).world _ rfl rfl rfl rfl rfl⟩
def pick3 (c0 c1 c2 n : Nat) : Nat := match n with | 0 => c0 | 1 => c1 | _ => c2
theorem WorldAt.client {w : World} {gw : Nat} {F : Nat -> Prop} {h : House} {gs c0 c1 c2 gp : Nat} (A : WorldAt w gw F h gs c0 c1 c2 gp) {n : Nat} (hn : n < 3) :
 (worldCells gs c0 c1 c2 gp)[1 + n]? = some (.pointer (some ⟨pick3 c0 c1 c2 n, 0, none⟩)) /\
 ∃ F', (repCl (pick3 c0 c1 c2 n)).on w F' (h.G n) /\ ∀ g' w', Moved (repCl (pick3 c0 c1 c2 n)) w F' g' w' -> Moved (repWorld gw) w F { h with G := upd h.G n g' } w' /\ w'.heap[gw]? = some (.cells (worldCells gs c0 c1 c2 gp) 60 (0, 0)) := by
 match n, hn with
 | 0, _ => exact ⟨rfl, A.cl0⟩
 | 1, _ => exact ⟨rfl, A.cl1⟩
 | 2, _ => exact ⟨rfl, A.cl2⟩
theorem holds_moves {α : Type} [Lies α] {w w' : World} {F : Nat -> Prop} {g : Nat} {T E : TypeId} {v r : Value} {l' : List α} {e : Ending} (hF : ∀ k, F k ↔ foot g v k) (h : Mut w g T E v l' r e w') : Moves (repHolds g T E) w F l' r e w' := by
 obtain ⟨he, v', h1, h2, h3⟩ := h;refine ⟨he, foot g v', ⟨v', fun k => Iff.rfl, h1⟩, h2.mono fun k hk => .inl ((hF k).2 hk), fun k hk => ?_⟩;rcases hk with rfl | hk
 ·exact .inl ((hF _).2 (.inl rfl))
 ·rcases h3 k hk with h | h
  ·exact .inl ((hF k).2 (.inr h))
  ·exact .inr h
theorem post_send2 (w : World) (F : Nat -> Prop) (g : Nat) (l : List Packet) (m : Packet) (h : (repPost g).on w F l) :
 Calls Tryz.prog 127 #[.pointer (some ⟨g, 0, none⟩), .agg m.cells] w (Moves (repPost g) w F (pSend l m).2 (.bool (pSend l m).1)) := by
 obtain ⟨v, hF, h⟩ := h;exact (post_send' w g v l m h).mono fun e w' hs => holds_moves hF hs
theorem post_take2 (w : World) (F : Nat -> Prop) (g : Nat) (l : List Packet) (n : Int) (h : (repPost g).on w F l) (hl : l.length <= 40) :
 Calls Tryz.prog 91 #[.pointer (some ⟨g, 0, none⟩), .int .i64 n] w (Moves (repPost g) w F (pTake l n).2.2 (.tuple #[.agg (pTake l n).1.cells, .bool (pTake l n).2.1])) := by
 obtain ⟨v, hF, h⟩ := h;exact (post_take' w g v l n h hl).mono fun e w' hs => holds_moves hF hs
theorem post_double2 (w : World) (F : Nat -> Prop) (g : Nat) (l : List Packet) (n : Int) (h : (repPost g).on w F l) (hl : l.length <= 40) :
 Calls Tryz.prog 128 #[.pointer (some ⟨g, 0, none⟩), .int .i64 n] w (Moves (repPost g) w F (pDouble l n).2 (.bool (pDouble l n).1)) := by
 obtain ⟨v, hF, h⟩ := h;exact (post_double' w g v l n h hl).mono fun e w' hs => holds_moves hF hs
theorem post_len2 (w : World) (F : Nat -> Prop) (g : Nat) (l : List Packet) (h : (repPost g).on w F l) :
 Calls Tryz.prog 90 #[.pointer (some ⟨g, 0, none⟩)] w fun e w' => e = .returned (.int .i64 l.length) /\ w = w' := by
 obtain ⟨v, hF, h⟩ := h;exact post_len w g v l h
theorem post_list2 (w : World) (F : Nat -> Prop) (g : Nat) (l : List Packet) (h : (repPost g).on w F l) (hl : l.length <= 40) :
 Calls Tryz.prog 135 #[.pointer (some ⟨g, 0, none⟩)] w (NewList w 103 l) := by
 obtain ⟨v, hF, h⟩ := h;exact post_list w g v l h hl
theorem world_client0 (w : World) (gw gs c0 c1 c2 gp : Nat) (hb : w.heap[gw]? = some (.cells (worldCells gs c0 c1 c2 gp) 60 (0, 0))) :
 Calls Tryz.prog 85 #[.pointer (some ⟨gw, 0, none⟩), .int .i64 0] w fun e w' => e = .returned (.pointer (some ⟨c0, 0, none⟩)) /\ w = w' := by
 have hc := cell_of hb 1;rw [show (worldCells gs c0 c1 c2 gp)[1]? = some (.pointer (some ⟨c0, 0, none⟩)) from rfl] at hc;clear hb;go_enter Tryz.func85, Tryz.ntmps85
 go_wp2
 go_ret
 exact ⟨rfl, rfl⟩
theorem world_client1 (w : World) (gw gs c0 c1 c2 gp : Nat) (hb : w.heap[gw]? = some (.cells (worldCells gs c0 c1 c2 gp) 60 (0, 0))) :
 Calls Tryz.prog 85 #[.pointer (some ⟨gw, 0, none⟩), .int .i64 1] w fun e w' => e = .returned (.pointer (some ⟨c1, 0, none⟩)) /\ w = w' := by
 have hc := cell_of hb 2;rw [show (worldCells gs c0 c1 c2 gp)[2]? = some (.pointer (some ⟨c1, 0, none⟩)) from rfl] at hc;clear hb;go_enter Tryz.func85, Tryz.ntmps85
 go_wp2
 go_ret
 exact ⟨rfl, rfl⟩
theorem world_client2 (w : World) (gw gs c0 c1 c2 gp : Nat) (hb : w.heap[gw]? = some (.cells (worldCells gs c0 c1 c2 gp) 60 (0, 0))) :
 Calls Tryz.prog 85 #[.pointer (some ⟨gw, 0, none⟩), .int .i64 2] w fun e w' => e = .returned (.pointer (some ⟨c2, 0, none⟩)) /\ w = w' := by
 have hc := cell_of hb 3;rw [show (worldCells gs c0 c1 c2 gp)[3]? = some (.pointer (some ⟨c2, 0, none⟩)) from rfl] at hc;clear hb;go_enter Tryz.func85, Tryz.ntmps85
 go_wp2
 go_ret
 exact ⟨rfl, rfl⟩
theorem world_client (w : World) (gw gs c0 c1 c2 gp : Nat) (hb : w.heap[gw]? = some (.cells (worldCells gs c0 c1 c2 gp) 60 (0, 0))) (n : Int) (hn : 0 <= n /\ n < 3) :
 Calls Tryz.prog 85 #[.pointer (some ⟨gw, 0, none⟩), .int .i64 n] w fun e w' => e = .returned (.pointer (some ⟨pick3 c0 c1 c2 n.toNat, 0, none⟩)) /\ w = w' := by
 obtain rfl | rfl | rfl : n = 0 \/ n = 1 \/ n = 2 := by omega
 ·exact world_client0 w gw gs c0 c1 c2 gp hb
 ·exact world_client1 w gw gs c0 c1 c2 gp hb
 ·exact world_client2 w gw gs c0 c1 c2 gp hb
theorem world_client_no (w : World) (gw : Nat) (n : Int) (hn : ¬ (0 <= n /\ n < 3)) :
 Calls Tryz.prog 85 #[.pointer (some ⟨gw, 0, none⟩), .int .i64 n] w fun e w' => e = .returned (.pointer none) /\ w = w' := by
 by_cases h0 : n < 0
 ·go_enter Tryz.func85, Tryz.ntmps85
  go_wp2
  go_ret
  exact ⟨rfl, rfl⟩
 ·have h3 : 3 <= n := by omega
  go_enter Tryz.func85, Tryz.ntmps85
  go_wp2
  go_ret
  exact ⟨rfl, rfl⟩
theorem world_packets (w : World) (gw : Nat) (F : Nat -> Prop) (h : House) (hh : (repWorld gw).on w F h) (hl : h.bag.length <= 40) :
 Calls Tryz.prog 94 #[.pointer (some ⟨gw, 0, none⟩)] w (NewList w 103 h.bag) := by
 obtain ⟨gs, c0, c1, c2, gp, A⟩ := world_open hh;have hc := cell_of A.cell 4;rw [show (worldCells gs c0 c1 c2 gp)[4]? = some (.pointer (some ⟨gp, 0, none⟩)) from rfl] at hc;obtain ⟨F', hF', _⟩ := A.post;have HP := lh hF';clear hF' A hh;go_enter Tryz.func94, Tryz.ntmps94
 go_wp2_with (go_at_call 135; refine (post_list2 _ F' gp h.bag HP.out hl).mono ?_; rintro e w' ⟨A1, c1, rfl, ho, he, hf⟩)
 go_ret
 exact ⟨A1, c1, rfl, ho, he, hf⟩
structure Fits (h : House) : Prop where
 log : LogOk h.S
 bag : h.bag.length <= 40
 calls : ∀ p ∈ h.bag, StrCall p.call
 done : ∀ i : Nat, i < 3 -> (h.G i).done.length <= 1000
 no : ∀ i : Nat, i < 3 -> 0 <= (h.G i).no /\ (h.G i).no <= 200
theorem hSend_9 {h : House} {n : Int} (hn : ¬ (0 <= n /\ n < 3)) : hSend h n = (9, h) := by unfold hSend; rw [if_pos hn]
theorem hSend_6 {h : House} {n : Int} (hn : 0 <= n /\ n < 3) (h6 : (gSend (h.G n.toNat)).2 = false) : hSend h n = (6, h) := by unfold hSend; rw [if_neg (fun x => x hn), if_pos h6]
theorem hSend_p {h : House} {n : Int} (hn : 0 <= n /\ n < 3) (h6 : (gSend (h.G n.toNat)).2 = true) {p : Packet} (hp : (gSend (h.G n.toNat)).1 = p) : hSend h n = (if (pSend h.bag p).1 = true then 0 else 7, { h with bag := (pSend h.bag p).2 }) := by
 unfold hSend;rw [if_neg (fun x => x hn), if_neg (by rw [h6]; decide), hp];cases hq : (pSend h.bag p).1 with
 | true => rw [if_neg (by decide), if_pos rfl]
 | false =>
   rw [if_pos rfl, if_neg (by decide)]
   have : (pSend h.bag p).2 = h.bag := by
    unfold pSend at hq ⊢;split
    ·rename_i hl; rw [if_pos hl] at hq; cases hq
    ·rfl
   rw [this]
theorem world_send_at (w : World) (gw : Nat) (F : Nat -> Prop) (h : House) (n : Int) (hh : (repWorld gw).on w F h) :
 Calls Tryz.prog 87 #[.pointer (some ⟨gw, 0, none⟩), .int .i64 n] w fun e w' => Moves (repWorld gw) w F (hSend h n).2 (.int .i64 (hSend h n).1) e w' /\ w'.heap[gw]? = w.heap[gw]? := by
 obtain ⟨gs, c0, c1, c2, gp, hA⟩ := world_open hh;have HH := lh hh;have HA := lh hA;clear hh hA;by_cases hn : 0 <= n /\ n < 3
 ·obtain ⟨hcell, F1, hF1, _⟩ := HA.out.client (n := n.toNat) (by omega);have HF1 := lh hF1;have HS6 := lh (hSend_6 (h := h) hn);obtain ⟨p, hp⟩ : ∃ p, (gSend (h.G n.toNat)).1 = p := ⟨_, rfl⟩
  have HSP := lh (fun h6 => hSend_p (h := h) hn h6 (p := p) hp);clear hF1 hcell;go_enter Tryz.func87, Tryz.ntmps87
  go_wp2_with fail
  refine (world_client w gw gs c0 c1 c2 gp HA.out.cell n hn).mono ?_;rintro e w' ⟨rfl, rfl⟩;generalize pick3 c0 c1 c2 n.toNat = g at *;go_wp2_with fail
  refine (client_send' w F1 g _ HF1.out).mono ?_;rintro e w1 ⟨rfl, hx1⟩;rw [hp];cases h6 : (gSend (h.G n.toNat)).2 with
  | false =>
    have HE := lh (HS6.out h6);have HX := lh (hx1.alloc (.cells p.cells 103));clear hx1 hp h6;go_wp2
    go_ret
    rw [HE.out];exact ⟨⟨rfl, Rep.moved HH.out HX.out⟩, (HX.out.blk HA.out.cell id).trans HA.out.cell.symm⟩
  | true =>
    have HE := lh (HSP.out h6);have hx2 := hx1.alloc (.cells p.cells 103);have hb2 : (w1.alloc (.cells p.cells 103)).heap[w1.heap.size]? = some (.cells p.cells 103 (0, 0)) := heap_alloc_new _ _;obtain ⟨F2, hF2, m2⟩ := HA.out.post;have HF2 := lh hF2;have HM2 := lh m2;have HNB := lh (show ¬ F2 w1.heap.size from fun h => by have := Rep.lt _ hF2 _ h; have := hx1.size; omega);clear hx1 hp h6 hF2 m2;go_wp2_with fail
    generalize w1.alloc (.cells p.cells 103) = w2 at hx2 hb2 ⊢;generalize w1.heap.size = b at hb2 HNB ⊢;have hc4 := cell_of (hx2.blk HA.out.cell id) 4;rw [show (worldCells gs c0 c1 c2 gp)[4]? = some (.pointer (some ⟨gp, 0, none⟩)) from rfl] at hc4;have hx3 : Ext w w2.drew := hx2.trans (Touch.drew (Touch.refl _ w2));cases hq : (pSend h.bag p).1
    all_goals
     have HQ := lh hq;clear hq;refine wp_region_held_drew (S := fun w' => w'.cell? ⟨gw, 4, none⟩ = some (.pointer (some ⟨gp, 0, none⟩)) /\ w'.heap[b]? = some (.cells p.cells 103 (0, 0))) (by kernel_rfl) ⟨hc4, hb2⟩ (fun hHeld => ?_);refine tK 0 ?_;try simp only [pS]
     refine tK 1 ?_;try simp only [pS]
     refine tK 2 ?_;try simp only [pS]
     refine tK 3 ?_ (hY := fun w' hw' => by
      obtain ⟨hh1, hh2⟩ := hw';go_simp;try with_reducible rfl)
     try simp only [pS]
     refine tK 4 ?_ (hY := fun w' hw' => by
      obtain ⟨hh1, hh2⟩ := hw';go_simp;try with_reducible rfl)
     try simp only [pS]
     refine tC 5 fun K hK => ?_;go_simp;go_at_call 127
     refine (post_send2 _ F2 gp h.bag p (Rep.ext HF2.out hx3)).mono ?_;rintro e w4 ⟨rfl, hq4⟩;have hm4 := HM2.out _ _ (Moved.ahead hx3 hq4);have HM4 := lh hm4.1;have HG4 := lh (hm4.2.trans HA.out.cell.symm);have hc5 := cell_of hm4.2 4;rw [show (worldCells gs c0 c1 c2 gp)[4]? = some (.pointer (some ⟨gp, 0, none⟩)) from rfl] at hc5;obtain ⟨_, _, ht4, _⟩ := hq4;refine hK.out _ _ ⟨hc5, ht4.blk hb2 HNB.out⟩ (fun hHeld => ?_);clear hK K;try simp only [pS]
     rw [HQ.out];refine tK 6 ?_;try simp only [pS]
     refine tD ?_;clear hm4 hc5 ht4 hHeld;go_wp2
     go_ret
     rw [HE.out];rw [HQ.out] at *;exact ⟨⟨rfl, HM4.out⟩, HG4.out⟩
 ·have HE := lh (hSend_9 (h := h) hn);go_enter Tryz.func87, Tryz.ntmps87
  go_wp2_with fail
  refine (world_client_no w gw n hn).mono ?_;rintro e w' ⟨rfl, rfl⟩;go_wp2
  go_ret
  rw [HE.out];exact ⟨⟨rfl, Rep.stays HH.out⟩, rfl⟩
theorem world_send (w : World) (gw : Nat) (F : Nat -> Prop) (h : House) (n : Int) (hh : (repWorld gw).on w F h) :
 Calls Tryz.prog 87 #[.pointer (some ⟨gw, 0, none⟩), .int .i64 n] w (Moves (repWorld gw) w F (hSend h n).2 (.int .i64 (hSend h n).1)) :=
 (world_send_at w gw F h n hh).mono fun _ _ q => q.1
theorem Moved.asideW {X : Type} {R : Rep X} {w wa w' : World} {F : Nat -> Prop} {x : X} {b : Nat} (hx : Ext w wa) (h : Moved R wa F x w') (hb : ¬ F b) (hlt : b < wa.heap.size) (hn : w.heap.size <= b) (cs : Array Value) : Moved R w F x (w'.setRow b cs) := by
 obtain ⟨F', h1, h2, h3⟩ := h
 have hnF : ¬ F' b := fun h => by
  rcases h3 b h with h | h
  ·exact hb h
  ·omega
 refine ⟨F', Rep.touch h1 ((Touch.refl (fun k => k = b) w').setRow (.inl rfl) _) (fun k hk e => hnF (e ▸ hk)), ?_, fun k hk => ?_⟩
 ·exact ((hx.mono (S := F) fun _ h => h.elim).then h2 fun k hk => .inl hk).then ((Touch.refl (fun k => k = b) w').setRow (.inl rfl) _) fun k hk => .inr (by rw [hk]; exact hn)
 ·rcases h3 k hk with h | h
  ·exact .inl h
  ·exact .inr (Nat.le_trans hx.size h)
theorem chest_refused {L : List Record} {client no : Int} {c : Call} (h : (chestCall L client no c).1.2.2 ≠ 0) : (chestCall L client no c).2 = L := by
 have hw := chest_way L client no c;generalize chestCall L client no c = r at *;rcases hw with ⟨k, hk, rfl⟩ | ⟨_, _, rfl⟩ | ⟨_, _, x, _, _, _, rfl⟩ | ⟨hc, hk, hl, hs, rfl⟩
 ·rfl
 ·rfl
 ·rfl
 ·exact (h rfl).elim
theorem hCome_r {h : House} {p : Packet} (hr : p.reply = true) (hn : 0 <= p.client /\ p.client < 3) : hCome h p = { h with G := upd h.G p.client.toNat (gHear (h.G p.client.toNat) p).2 } := by unfold hCome; rw [if_pos hr, if_pos hn]
theorem hCome_rn {h : House} {p : Packet} (hr : p.reply = true) (hn : ¬ (0 <= p.client /\ p.client < 3)) : hCome h p = h := by unfold hCome; rw [if_pos hr, if_neg hn]
theorem hCome_s {h : House} {p : Packet} (hr : p.reply = false) (h0 : (chestCall h.S p.client p.no p.call).1.2.2 = 0) : hCome h p = { h with S := (chestCall h.S p.client p.no p.call).2, bag := (pSend h.bag (hReply p (chestCall h.S p.client p.no p.call).1.1)).2 } := by
 unfold hCome; rw [if_neg (by rw [hr]; decide), if_pos h0]
theorem hCome_sn {h : House} {p : Packet} (hr : p.reply = false) (h0 : (chestCall h.S p.client p.no p.call).1.2.2 ≠ 0) : hCome h p = { h with S := (chestCall h.S p.client p.no p.call).2 } := by
 unfold hCome; rw [if_neg (by rw [hr]; decide), if_neg h0, chest_refused h0]
theorem world_come_r (w : World) (gw : Nat) (F : Nat -> Prop) (h : House) (p : Packet) (hh : (repWorld gw).on w F h) (hd : ∀ i : Nat, i < 3 -> (h.G i).done.length <= 1000) (hr : p.reply = true) :
 Calls Tryz.prog 92 #[.pointer (some ⟨gw, 0, none⟩), .agg p.cells] w fun e w' => e = .returned (.tuple #[]) /\ Moved (repWorld gw) w F (hCome h p) w' := by
 obtain ⟨gs, c0, c1, c2, gp, hA⟩ := world_open hh;have HH := lh hh;have HA := lh hA;have HD := lh hd;clear hh hA hd;by_cases hn : 0 <= p.client /\ p.client < 3
 ·have HE := lh (hCome_r (h := h) hr hn);obtain ⟨hcell, F1, hF1, m1⟩ := HA.out.client (n := p.client.toNat) (by omega);have HF1 := lh hF1;have HM1 := lh m1;clear hF1 hcell m1;go_enter Tryz.func92, Tryz.ntmps92
  go_wp2_with fail
  have hx1 : Ext w (w.alloc (.cells p.cells 103)) := (Touch.refl _ w).alloc _;have hb1 : (w.alloc (.cells p.cells 103)).heap[w.heap.size]? = some (.cells p.cells 103 (0, 0)) := heap_alloc_new _ _;generalize w.alloc (.cells p.cells 103) = w1 at hx1 hb1 ⊢;generalize w.heap.size = b at hb1 ⊢;refine (world_client w1 gw gs c0 c1 c2 gp (hx1.blk HA.out.cell id) _ hn).mono ?_;rintro e w' ⟨rfl, rfl⟩;generalize pick3 c0 c1 c2 p.client.toNat = g at *;go_wp2_with fail
  refine (client_hear' w1 F1 g _ p (Rep.ext HF1.out hx1) (HD.out _ (by omega))).mono ?_;rintro e w2 ⟨rfl, hq2⟩;have HM2 := lh (HM1.out _ _ (Moved.ahead hx1 hq2)).1;clear hq2;go_wp2
  first
   | go_end0
   | refine bodyPost_ret (results_none rfl _ _ _) rfl ?_
   | refine bodyPost_end (results_none rfl _ _ _) rfl ?_
  rw [HE.out];exact ⟨rfl, HM2.out⟩
 ·have HE := lh (hCome_rn (h := h) hr hn);go_enter Tryz.func92, Tryz.ntmps92
  go_wp2_with fail
  have hx1 : Ext w (w.alloc (.cells p.cells 103)) := (Touch.refl _ w).alloc _;generalize w.alloc (.cells p.cells 103) = w1 at hx1 ⊢;refine (world_client_no w1 gw _ hn).mono ?_;rintro e w' ⟨rfl, rfl⟩;go_wp2
  first
   | go_end0
   | refine bodyPost_ret (results_none rfl _ _ _) rfl ?_
   | refine bodyPost_end (results_none rfl _ _ _) rfl ?_
  rw [HE.out];exact ⟨rfl, Rep.moved HH.out hx1⟩
theorem world_come_s (w : World) (gw : Nat) (F : Nat -> Prop) (h : House) (p : Packet) (hh : (repWorld gw).on w F h) (hL : LogOk h.S) (hst : StrCall p.call) (hr : p.reply = false) :
 Calls Tryz.prog 92 #[.pointer (some ⟨gw, 0, none⟩), .agg p.cells] w fun e w' => e = .returned (.tuple #[]) /\ Moved (repWorld gw) w F (hCome h p) w' := by
 have M1 := lh ((Rep.stays hh).box p.cells 103);obtain ⟨F1, hF1, hm1⟩ := M1.out.fstM;obtain ⟨gs, c0, c1, c2, gp, hA⟩ := world_open hF1;obtain ⟨Fs, hFs, ms⟩ := hA.store;have hb1 := M1.out.blk;have hc0 := cell_of hA.cell 0;rw [show (worldCells gs c0 c1 c2 gp)[0]? = some (.pointer (some ⟨gs, 0, none⟩)) from rfl] at hc0;have HFS := lh hFs;have HMS := lh ms;have HM1 := lh hm1;have HL := lh hL;have HST := lh hst;have HNZ := lh (show ∀ k, w.heap.size < k -> ¬ Fs k from fun k hk h => by have := Rep.lt _ hFs _ h; rw [World.size_alloc] at this; omega);clear hh hF1 hm1 hFs ms hL hst;go_enter Tryz.func92, Tryz.ntmps92
 go_wp2_with fail
 have hsz : (w.alloc (.cells p.cells 103)).heap.size = w.heap.size + 1 := World.size_alloc _ _;generalize w.alloc (.cells p.cells 103) = w1 at *;obtain ⟨b, hb⟩ : ∃ b, w.heap.size = b := ⟨_, rfl⟩
 rw [hb] at hb1 M1 HM1 HNZ hsz ⊢;have hlb := (aG hb1).1
 have HSS := lh (show ∀ w' : World, w'.heap[gw]? = some (.cells (worldCells gs c0 c1 c2 gp) 60 (0, 0)) -> w'.heap[b]? = some (.cells p.cells 103 (0, 0)) -> w'.cell? ⟨gw, 0, none⟩ = some (.pointer (some ⟨gs, 0, none⟩)) /\ w'.heap[b]? = some (.cells p.cells 103 (0, 0)) /\ w'.cell? ⟨b, 1, none⟩ = some (.int .i64 p.client) /\ w'.cell? ⟨b, 2, none⟩ = some (.int .i64 p.no) from
  fun w' h1 h2 => ⟨cell_of h1 0, h2, (cell_of h2 1).trans (Packet.get1 p), (cell_of h2 2).trans (Packet.get2 p)⟩)
 refine wp_region_held_drew (S := fun w' => w'.cell? ⟨gw, 0, none⟩ = some (.pointer (some ⟨gs, 0, none⟩)) /\ w'.heap[b]? = some (.cells p.cells 103 (0, 0)) /\ w'.cell? ⟨b, 1, none⟩ = some (.int .i64 p.client) /\ w'.cell? ⟨b, 2, none⟩ = some (.int .i64 p.no)) (by kernel_rfl) (HSS.out _ hA.cell hb1) (fun hHeld => ?_);refine tK 0 ?_;try simp only [pS]
 refine tK 1 ?_;try simp only [pS]
 refine tK 2 ?_;try simp only [pS]
 refine tK 3 ?_ (hY := fun w' hw' => by
  obtain ⟨hh1, hh2, hh3, hh4⟩ := hw';go_simp;try with_reducible rfl)
 try simp only [pS]
 refine tK 4 ?_;try simp only [pS]
 refine tK 5 ?_ (hY := fun w' hw' => by
  obtain ⟨hh1, hh2, hh3, hh4⟩ := hw';go_simp;try with_reducible rfl)
 try simp only [pS]
 refine tK 6 ?_;try simp only [pS]
 refine tK 7 ?_ (hY := fun w' hw' => by
  obtain ⟨hh1, hh2, hh3, hh4⟩ := hw';go_simp;try with_reducible rfl)
 try simp only [pS]
 refine tK 8 ?_;try simp only [pS]
 refine tK 9 ?_ (hY := fun w' hw' => by
  obtain ⟨hh1, hh2, hh3, hh4⟩ := hw';go_simp;try with_reducible rfl)
 try simp only [pS]
 refine wpAnyH_ready (rs := [10, 14]) (by kernel_rfl) (by simp) ?_;refine AllReadyH.cons (gT rfl) (fun K hK => ?_) (AllReadyH.cons (gT rfl) (fun K hK => ?_) AllReadyH.nil)
 ·skip
  go_simp;go_at_call 134
  have hxc : Ext w1 w1.drew := Touch.drew (Touch.refl _ w1);refine (store_calls w1.drew gs Fs h.S p.client p.no p.call (Rep.ext HFS.out hxc) HL.out HST.out).mono ?_;rintro e w2 ⟨rfl, hq2⟩;have hm2 := HMS.out _ _ (Moved.ahead hxc hq2);have M2 := lh (HM1.out _ _ hm2.1);have hb2 := M2.out.blk;have hlb2 := (aG hb2).1;have hlg2 := (aG hm2.2).1;refine hK.out _ _ (HSS.out _ hm2.2 hb2) (fun hHeld => ?_);clear hK K;try simp only [pS]
  refine tK 11 ?_;try simp only [pS]
  refine tK 12 ?_;try simp only [pS]
  refine tK 13 ?_;try simp only [pS]
  refine tC 14 fun K hK => ?_;go_simp;refine hK.out _ _ (HSS.out _ ((Below.heap_alloc _ _ _ hlg2).trans hm2.2) ((Below.heap_alloc _ _ _ hlb2).trans hb2)) (fun hHeld => ?_);clear hK K;try simp only [pS]
  refine tC 15 fun K hK => ?_;go_simp;refine hK.out _ _ (HSS.out _ ((Below.heap_alloc _ _ _ hlg2).trans hm2.2) ((Below.heap_alloc _ _ _ hlb2).trans hb2)) (fun hHeld => ?_);clear hK K;try simp only [pS]
  refine tK 16 ?_;try simp only [pS]
  refine tD ?_;have M4 := lh (M2.out.behind ((Touch.refl _ w2).alloc (.cells (chestCall h.S p.client p.no p.call).1.1.cells 101)));have hz4 : (w2.alloc (.cells (chestCall h.S p.client p.no p.call).1.1.cells 101)).heap[w2.heap.size]? = some (.cells (chestCall h.S p.client p.no p.call).1.1.cells 101 (0, 0)) := heap_alloc_new _ _;have hb4 := M4.out.blk;have nzb : w2.heap.size ≠ b := by omega
  clear hHeld M2 hb2 hm2 hq2 hlb2 hlg2 hlb hsz hb1 hc0 hA;generalize w2.alloc (.cells (chestCall h.S p.client p.no p.call).1.1.cells 101) = w4 at M4 hz4 hb4 ⊢;generalize w2.heap.size = bz at hz4 nzb ⊢;generalize hcr : chestCall h.S p.client p.no p.call = cr at *;obtain ⟨⟨a, n, code⟩, S'⟩ := cr;try dsimp only at *
  by_cases h0 : code = 0
  ·subst h0;have he := hCome_s (h := h) hr (by rw [hcr]);rw [hcr] at he;have HE := lh he;clear hcr he;have hc40 := cell_of hb4 0;rw [Packet.get0] at hc40;have hf40 := frozen_of hb4 0;go_wp2_with fail
   go_region
   all_goals
    obtain ⟨q, hq⟩ : ∃ q, hReply p a = q := ⟨_, rfl⟩
    rw [show ({ reply := true, client := p.client, no := p.no, call := p.call, answer := a } : Packet) = q from hq];rw [hq] at HE;have hb5a := setCell_heap hb4 0 (.bool true);have hb5 := setRow_heap _ _ _ q.cells _ _ hb5a;have M5 := (M4.out.turnB (w' := (w4.setCell ⟨b, 0, none⟩ (.bool true)).setRow b q.cells) (((Touch.refl (fun k => k = b) w4).setCell (a := ⟨b, 0, none⟩) (.inl rfl) _).setRow (.inl rfl) _) hb5).behind (Touch.drew (Touch.refl _ _));clear hq hb5a hb5 hz4 hb4 hc40 hf40 M4;generalize ((w4.setCell ⟨b, 0, none⟩ (.bool true)).setRow b q.cells).drew = w5 at M5 ⊢;have hb5 := M5.blk;obtain ⟨F5, hF5, hm5⟩ := M5.fstM;obtain ⟨gs5, d0, d1, d2, gp5, hA5⟩ := world_open hF5;obtain ⟨F2, hF2, hm2⟩ := hA5.post;have hc5 := (cell_of hA5.cell 4).trans (show (worldCells gs5 d0 d1 d2 gp5)[4]? = some (.pointer (some ⟨gp5, 0, none⟩)) from rfl);have HF2 := lh hF2;have HM2 := lh hm2;have HM5 := lh hm5;clear hF2 hm2 hm5 hF5 hA5 M5;go_wp2_with fail
    refine wp_region_held_drew (S := fun w' => w'.cell? ⟨gw, 4, none⟩ = some (.pointer (some ⟨gp5, 0, none⟩)) /\ w'.heap[b]? = some (.cells q.cells 103 (0, 0))) (by kernel_rfl) ⟨hc5, hb5⟩ (fun hHeld => ?_);refine tK 0 ?_;try simp only [pS]
    refine tK 1 ?_;try simp only [pS]
    refine tK 2 ?_;try simp only [pS]
    refine tK 3 ?_ (hY := fun w' hw' => by
     obtain ⟨hh1, hh2⟩ := hw';go_simp;try with_reducible rfl)
    try simp only [pS]
    refine tK 4 ?_ (hY := fun w' hw' => by
     obtain ⟨hh1, hh2⟩ := hw';go_simp;try with_reducible rfl)
    try simp only [pS]
    refine tC 5 fun K hK => ?_;go_simp;go_at_call 127
    have hx5 : Ext w5 w5.drew := Touch.drew (Touch.refl _ w5);refine (post_send2 _ F2 gp5 h.bag q (Rep.ext HF2.out hx5)).mono ?_;rintro e w6 ⟨rfl, hq6⟩;have hm6 := HM2.out _ _ (Moved.ahead hx5 hq6);have M6 := lh (HM5.out _ _ hm6.1);refine hK.out _ _ ⟨(cell_of hm6.2 4).trans (show (worldCells gs5 d0 d1 d2 gp5)[4]? = some (.pointer (some ⟨gp5, 0, none⟩)) from rfl), M6.out.blk⟩ (fun hHeld => ?_);clear hK K;try simp only [pS]
    refine tD ?_;clear hm6 hq6 hHeld hc5 hb5;go_wp2
    first
     | go_end0
     | refine bodyPost_ret (results_none rfl _ _ _) rfl ?_
     | refine bodyPost_end (results_none rfl _ _ _) rfl ?_
    rw [HE.out];exact ⟨rfl, M6.out.left⟩
  ·have h0' : (code == 0) = false := by simp [h0]
   have he := hCome_sn (h := h) hr (by rw [hcr]; exact h0);rw [hcr] at he;have HE := lh he;clear hcr he;go_wp2
   first
    | go_end0
    | refine bodyPost_ret (results_none rfl _ _ _) rfl ?_
    | refine bodyPost_end (results_none rfl _ _ _) rfl ?_
   rw [HE.out];exact ⟨rfl, M4.out.left⟩
 ·skip
  go_simp;have hxa : Ext w1 (w1.alloc (.cells (Answer.cells ⟨0, ⟨#[]⟩⟩) 101)).drew := ((Touch.refl _ w1).alloc _).drew;have hza : (w1.alloc (.cells (Answer.cells ⟨0, ⟨#[]⟩⟩) 101)).drew.heap[w1.heap.size]? = some (.cells (Answer.cells ⟨0, ⟨#[]⟩⟩) 101 (0, 0)) := heap_alloc_new _ _;refine hK.out _ _ (HSS.out _ (hxa.blk hA.cell id) (hxa.blk hb1 id)) (fun hHeld => ?_);clear hK K;try simp only [pS]
  generalize (w1.alloc (.cells (Answer.cells ⟨0, ⟨#[]⟩⟩) 101)).drew = wa at hxa hza ⊢;obtain ⟨bz, hbz⟩ : ∃ bz, b + 1 = bz := ⟨_, rfl⟩
  have hzn : ¬ Fs bz := HNZ.out bz (by omega);have nzb : bz ≠ b := by omega
  rw [hsz, hbz] at hza;rw [hbz];refine tC 10 fun K hK => ?_;go_simp;go_at_call 134
  refine (store_calls wa gs Fs h.S p.client p.no p.call (Rep.ext HFS.out hxa) HL.out HST.out).mono ?_;rintro e w2 ⟨rfl, hq2⟩;have hm2 := HMS.out _ _ (Moved.ahead hxa hq2);have hb2 := (HM1.out _ _ hm2.1).blk;have hm4 := HMS.out _ _ (Moved.asideW hxa hq2 hzn (aG hza).1 (by omega) (chestCall h.S p.client p.no p.call).1.1.cells);have M4 := lh (HM1.out _ _ hm4.1);obtain ⟨_, _, ht2, _⟩ := hq2;have hz2 : w2.heap[bz]? = some (.cells (Answer.cells ⟨0, ⟨#[]⟩⟩) 101 (0, 0)) := ht2.blk hza hzn;refine hK.out _ _ (HSS.out _ hm2.2 hb2) (fun hHeld => ?_);clear hK K;try simp only [pS]
  refine tK 11 ?_;try simp only [pS]
  refine tK 12 ?_;try simp only [pS]
  refine tK 13 ?_;try simp only [pS]
  refine tC 15 fun K hK => ?_;go_simp;have hz4 := setRow_heap _ _ _ (chestCall h.S p.client p.no p.call).1.1.cells _ _ hz2;have hb4 := M4.out.blk;refine hK.out _ _ (HSS.out _ hm4.2 hb4) (fun hHeld => ?_);clear hK K;try simp only [pS]
  refine tK 16 ?_;try simp only [pS]
  refine tD ?_;clear hHeld hb2 hm2 hm4 ht2 hz2 hza hlb hsz hb1 hc0 hA;generalize w2.setRow bz (chestCall h.S p.client p.no p.call).1.1.cells = w4 at M4 hz4 hb4 ⊢;generalize hcr : chestCall h.S p.client p.no p.call = cr at *;obtain ⟨⟨a, n, code⟩, S'⟩ := cr;try dsimp only at *
  by_cases h0 : code = 0
  ·subst h0;have he := hCome_s (h := h) hr (by rw [hcr]);rw [hcr] at he;have HE := lh he;clear hcr he;have hc40 := cell_of hb4 0;rw [Packet.get0] at hc40;have hf40 := frozen_of hb4 0;go_wp2_with fail
   go_region
   all_goals
    obtain ⟨q, hq⟩ : ∃ q, hReply p a = q := ⟨_, rfl⟩
    rw [show ({ reply := true, client := p.client, no := p.no, call := p.call, answer := a } : Packet) = q from hq];rw [hq] at HE;have hb5a := setCell_heap hb4 0 (.bool true);have hb5 := setRow_heap _ _ _ q.cells _ _ hb5a;have M5 := (M4.out.turnB (w' := (w4.setCell ⟨b, 0, none⟩ (.bool true)).setRow b q.cells) (((Touch.refl (fun k => k = b) w4).setCell (a := ⟨b, 0, none⟩) (.inl rfl) _).setRow (.inl rfl) _) hb5).behind (Touch.drew (Touch.refl _ _));clear hq hb5a hb5 hz4 hb4 hc40 hf40 M4;generalize ((w4.setCell ⟨b, 0, none⟩ (.bool true)).setRow b q.cells).drew = w5 at M5 ⊢;have hb5 := M5.blk;obtain ⟨F5, hF5, hm5⟩ := M5.fstM;obtain ⟨gs5, d0, d1, d2, gp5, hA5⟩ := world_open hF5;obtain ⟨F2, hF2, hm2⟩ := hA5.post;have hc5 := (cell_of hA5.cell 4).trans (show (worldCells gs5 d0 d1 d2 gp5)[4]? = some (.pointer (some ⟨gp5, 0, none⟩)) from rfl);have HF2 := lh hF2;have HM2 := lh hm2;have HM5 := lh hm5;clear hF2 hm2 hm5 hF5 hA5 M5;go_wp2_with fail
    refine wp_region_held_drew (S := fun w' => w'.cell? ⟨gw, 4, none⟩ = some (.pointer (some ⟨gp5, 0, none⟩)) /\ w'.heap[b]? = some (.cells q.cells 103 (0, 0))) (by kernel_rfl) ⟨hc5, hb5⟩ (fun hHeld => ?_);refine tK 0 ?_;try simp only [pS]
    refine tK 1 ?_;try simp only [pS]
    refine tK 2 ?_;try simp only [pS]
    refine tK 3 ?_ (hY := fun w' hw' => by
     obtain ⟨hh1, hh2⟩ := hw';go_simp;try with_reducible rfl)
    try simp only [pS]
    refine tK 4 ?_ (hY := fun w' hw' => by
     obtain ⟨hh1, hh2⟩ := hw';go_simp;try with_reducible rfl)
    try simp only [pS]
    refine tC 5 fun K hK => ?_;go_simp;go_at_call 127
    have hx5 : Ext w5 w5.drew := Touch.drew (Touch.refl _ w5);refine (post_send2 _ F2 gp5 h.bag q (Rep.ext HF2.out hx5)).mono ?_;rintro e w6 ⟨rfl, hq6⟩;have hm6 := HM2.out _ _ (Moved.ahead hx5 hq6);have M6 := lh (HM5.out _ _ hm6.1);refine hK.out _ _ ⟨(cell_of hm6.2 4).trans (show (worldCells gs5 d0 d1 d2 gp5)[4]? = some (.pointer (some ⟨gp5, 0, none⟩)) from rfl), M6.out.blk⟩ (fun hHeld => ?_);clear hK K;try simp only [pS]
    refine tD ?_;clear hm6 hq6 hHeld hc5 hb5;go_wp2
    first
     | go_end0
     | refine bodyPost_ret (results_none rfl _ _ _) rfl ?_
     | refine bodyPost_end (results_none rfl _ _ _) rfl ?_
    rw [HE.out];exact ⟨rfl, M6.out.left⟩
  ·have h0' : (code == 0) = false := by simp [h0]
   have he := hCome_sn (h := h) hr (by rw [hcr]; exact h0);rw [hcr] at he;have HE := lh he;clear hcr he;go_wp2
   first
    | go_end0
    | refine bodyPost_ret (results_none rfl _ _ _) rfl ?_
    | refine bodyPost_end (results_none rfl _ _ _) rfl ?_
   rw [HE.out];exact ⟨rfl, M4.out.left⟩
theorem world_come (w : World) (gw : Nat) (F : Nat -> Prop) (h : House) (p : Packet) (hh : (repWorld gw).on w F h) (hL : LogOk h.S) (hd : ∀ i : Nat, i < 3 -> (h.G i).done.length <= 1000) (hst : StrCall p.call) :
 Calls Tryz.prog 92 #[.pointer (some ⟨gw, 0, none⟩), .agg p.cells] w fun e w' => e = .returned (.tuple #[]) /\ Moved (repWorld gw) w F (hCome h p) w' := by
 cases hr : p.reply with
 | true => exact world_come_r w gw F h p hh hd hr
 | false => exact world_come_s w gw F h p hh hL hst hr
theorem store_crash2 (w : World) (gs : Nat) (F : Nat -> Prop) (L : List Record) (h : (repStore gs).on w F L) (hL : LogOk L) :
 Calls Tryz.prog 89 #[.pointer (some ⟨gs, 0, none⟩)] w fun e w' => e = .returned (.tuple #[]) /\ Moved (repStore gs) w F L w' := by
 have hl := hL.len;refine (store_crash w gs F (chestD L) h (by show (logBytes L).length <= 10000; omega)).mono ?_;rintro e w' ⟨he, F', h1, h2⟩;rw [show recAll (chestD L).log = L from recAll_log hL.each] at h1;exact ⟨he, F', h1, h2⟩
structure StrWStep (x : Step) : Prop where
 call : StrCall x.call
 keep : I64 x.keep
theorem hTook_fits {h : House} (hf : Fits h) (n : Int) : Fits (hTook h n) := ⟨hf.log, pTake_le n hf.bag, fun p hp => hf.calls p (pTake_mem hp), hf.done, hf.no⟩
theorem hPacket_0 {h : House} {x : Step} (hb : h.bag = []) : hPacket h x = (6, h) := by unfold hPacket; rw [if_pos hb]
theorem hPacket_5 {h : House} {x : Step} (hb : h.bag ≠ []) (hk : x.kind = 5) : hPacket h x = (if (pDouble h.bag x.n).1 = true then 0 else 7, { h with bag := (pDouble h.bag x.n).2 }) := by
 unfold hPacket;rw [if_neg hb, if_pos hk];cases hq : (pDouble h.bag x.n).1 with
 | true => rw [if_pos rfl, if_pos rfl]
 | false =>
   rw [if_neg (by decide), if_neg (by decide)]
   have : (pDouble h.bag x.n).2 = h.bag := by
    unfold pDouble at hq ⊢;split at hq
    ·unfold pSend at hq ⊢;split at hq
     ·cases hq
     ·rename_i h2; rw [if_neg h2]
    ·rfl
   rw [this]
theorem hPacket_3 {h : House} {x : Step} (hb : h.bag ≠ []) (hk : x.kind = 3) : hPacket h x = (0, hCome (hTook h x.n) (pTake h.bag x.n).1) := by
 unfold hPacket;rw [if_neg hb, if_neg (by omega), if_pos hk]
theorem hPacket_7 {h : House} {x : Step} (hb : h.bag ≠ []) (hk : x.kind = 7) (hr : (pTake h.bag x.n).1.reply = false) : hPacket h x = ((chestTear h.S (pTake h.bag x.n).1.client (pTake h.bag x.n).1.no (pTake h.bag x.n).1.call x.keep).1,
 { hTook h x.n with S := (chestTear h.S (pTake h.bag x.n).1.client (pTake h.bag x.n).1.no (pTake h.bag x.n).1.call x.keep).2 }) := by
 unfold hPacket;rw [if_neg hb, if_neg (by omega), if_neg (by omega), if_pos ⟨hk, hr⟩]
theorem hPacket_o {h : House} {x : Step} (hb : h.bag ≠ []) (h5 : x.kind ≠ 5) (h3 : x.kind ≠ 3) (h7 : ¬ (x.kind = 7 /\ (pTake h.bag x.n).1.reply = false)) : hPacket h x = (0, hTook h x.n) := by
 unfold hPacket;rw [if_neg hb, if_neg h5, if_neg h3, if_neg h7]
theorem Moved.ff3 {X Y Z : Type} {R : Rep X} {S : Rep Y} {O : Rep Z} {w wr : World} {F : Nat -> Prop} {x : X} {y : Y} {z : Z} (h : Moved ((R.and S).and O) w F ((x, y), z) wr) : ∃ F', R.on wr F' x /\ ∀ x' w', Moved R wr F' x' w' -> Moved ((R.and S).and O) w F ((x', y), z) w' := by
 obtain ⟨Fa, hFa, hma⟩ := h.fstM;obtain ⟨F1, hF1, hm1⟩ := Rep.fst hFa;exact ⟨F1, hF1, fun x' w' m => hma _ _ (hm1 _ _ m)⟩
theorem world_same {w : World} {gw gs c0 c1 c2 gp gs' d0 d1 d2 gp' : Nat} {T : TypeId} (h1 : w.heap[gw]? = some (.cells (worldCells gs c0 c1 c2 gp) T (0, 0))) (h2 : w.heap[gw]? = some (.cells (worldCells gs' d0 d1 d2 gp') T (0, 0))) : gs' = gs /\ gp' = gp := by
 rw [h1] at h2;simp [worldCells] at h2;exact ⟨h2.1.symm, h2.2.2.2.2.symm⟩
theorem world_packet (w : World) (gw : Nat) (F : Nat -> Prop) (h : House) (x : Step) (hh : (repWorld gw).on w F h) (hf : Fits h) (hx : StrWStep x) :
 Calls Tryz.prog 88 #[.pointer (some ⟨gw, 0, none⟩), .agg x.cells] w (Moves (repWorld gw) w F (hPacket h x).2 (.int .i64 (hPacket h x).1)) := by
 have M1 := lh ((Rep.stays hh).box x.cells 85);obtain ⟨F1, hF1, hm1⟩ := M1.out.fstM;obtain ⟨gs, c0, c1, c2, gp, hA⟩ := world_open hF1;obtain ⟨F2, hF2, hm2⟩ := hA.post;have hb1 := M1.out.blk;have hc4 := (cell_of hA.cell 4).trans (show (worldCells gs c0 c1 c2 gp)[4]? = some (.pointer (some ⟨gp, 0, none⟩)) from rfl);have hcn := (cell_of hb1 1).trans (Step.get1 x);have hck := (cell_of hb1 0).trans (Step.get0 x);have HF2 := lh hF2;have HM2 := lh hm2;have HM1 := lh hm1;have HF := lh hf;have HX := lh hx;have HNZ := lh (show ∀ k, w.heap.size < k -> ¬ F2 k from fun k hk h => by have := Rep.lt _ hF2 _ h; rw [World.size_alloc] at this; omega);clear hh hF1 hm1 hF2 hm2 hf hx;go_enter Tryz.func88, Tryz.ntmps88
 go_wp2_with fail
 have hsz : (w.alloc (.cells x.cells 85)).heap.size = w.heap.size + 1 := World.size_alloc _ _;generalize w.alloc (.cells x.cells 85) = w1 at *;obtain ⟨b, hb⟩ : ∃ b, w.heap.size = b := ⟨_, rfl⟩
 rw [hb] at hb1 hcn hck M1 HM1 HNZ hsz ⊢;refine (post_len2 w1 F2 gp h.bag HF2.out).mono ?_;rintro e w' ⟨rfl, rfl⟩;by_cases hbag : h.bag = []
 ·have hl0 : (h.bag.length : Int) = 0 := by rw [hbag]; rfl
  have HE := lh (hPacket_0 (x := x) hbag);rw [hl0];go_wp2
  go_ret
  rw [HE.out];exact ⟨rfl, M1.out.left⟩
 ·have hl0 : ((h.bag.length : Int) == 0) = false := by
   have : h.bag.length ≠ 0 := fun e => hbag (List.eq_nil_of_length_eq_zero e);simp [hbag]
  by_cases h5 : x.kind = 5
  ·have h5' : (x.kind == 5) = true := by simp [h5]
   have HE := lh (hPacket_5 hbag h5);clear h5;go_wp2_with fail
   cases hq : (pDouble h.bag x.n).1
   all_goals
    have HQ := lh hq;clear hq;refine wp_region_held_drew (S := fun w' => w'.cell? ⟨gw, 4, none⟩ = some (.pointer (some ⟨gp, 0, none⟩)) /\ w'.cell? ⟨b, 1, none⟩ = some (.int .i64 x.n)) (by kernel_rfl) ⟨hc4, hcn⟩ (fun hHeld => ?_);refine tK 0 ?_;try simp only [pS]
    refine tK 1 ?_;try simp only [pS]
    refine tK 2 ?_;try simp only [pS]
    refine tK 3 ?_ (hY := fun w' hw' => by
     obtain ⟨hh1, hh2⟩ := hw';go_simp;try with_reducible rfl)
    try simp only [pS]
    refine tK 4 ?_;try simp only [pS]
    refine tK 5 ?_ (hY := fun w' hw' => by
     obtain ⟨hh1, hh2⟩ := hw';go_simp;try with_reducible rfl)
    try simp only [pS]
    refine tC 6 fun K hK => ?_;go_simp;go_at_call 128
    have hx3 : Ext w1 w1.drew := Touch.drew (Touch.refl _ w1);refine (post_double2 _ F2 gp h.bag x.n (Rep.ext HF2.out hx3) HF.out.bag).mono ?_;rintro e w4 ⟨rfl, hq4⟩;have hm4 := HM2.out _ _ (Moved.ahead hx3 hq4);have M4 := lh (HM1.out _ _ hm4.1);refine hK.out _ _ ⟨(cell_of hm4.2 4).trans (show (worldCells gs c0 c1 c2 gp)[4]? = some (.pointer (some ⟨gp, 0, none⟩)) from rfl), (cell_of M4.out.blk 1).trans (Step.get1 x)⟩ (fun hHeld => ?_);clear hK K;try simp only [pS]
    rw [HQ.out];refine tK 7 ?_;try simp only [pS]
    refine tD ?_;clear hm4 hq4 hHeld;go_wp2
    go_ret
    rw [HE.out];rw [HQ.out] at *;exact ⟨rfl, M4.out.left⟩
  ·have h5' : (x.kind == 5) = false := by simp [h5]
   go_wp2_with fail
   have HSS := lh (show ∀ w' : World, w'.heap[gw]? = some (.cells (worldCells gs c0 c1 c2 gp) 60 (0, 0)) -> w'.heap[b]? = some (.cells x.cells 85 (0, 0)) -> w'.cell? ⟨gw, 4, none⟩ = some (.pointer (some ⟨gp, 0, none⟩)) /\ w'.cell? ⟨b, 1, none⟩ = some (.int .i64 x.n) from
    fun w' h1 h2 => ⟨cell_of h1 4, (cell_of h2 1).trans (Step.get1 x)⟩)
   have hlb := (aG hb1).1;have hfi := hTook_fits HF.out x.n;have hst : StrCall (pTake h.bag x.n).1.call := HF.out.calls _ (pTake_took x.n hbag);refine wp_region_held_drew (S := fun w' => w'.cell? ⟨gw, 4, none⟩ = some (.pointer (some ⟨gp, 0, none⟩)) /\ w'.cell? ⟨b, 1, none⟩ = some (.int .i64 x.n)) (by kernel_rfl) ⟨hc4, hcn⟩ (fun hHeld => ?_);refine tK 0 ?_;try simp only [pS]
   refine tK 1 ?_;try simp only [pS]
   refine tK 2 ?_;try simp only [pS]
   refine tK 3 ?_ (hY := fun w' hw' => by
    obtain ⟨hh1, hh2⟩ := hw';go_simp;try with_reducible rfl)
   try simp only [pS]
   refine tK 4 ?_;try simp only [pS]
   refine tK 5 ?_ (hY := fun w' hw' => by
    obtain ⟨hh1, hh2⟩ := hw';go_simp;try with_reducible rfl)
   try simp only [pS]
   refine wpAnyH_ready (rs := [6, 10]) (by kernel_rfl) (by simp) ?_;refine AllReadyH.cons (gT rfl) (fun K hK => ?_) (AllReadyH.cons (gT rfl) (fun K hK => ?_) AllReadyH.nil)
   ·skip
    go_simp;go_at_call 91
    have hxc : Ext w1 w1.drew := Touch.drew (Touch.refl _ w1);refine (post_take2 w1.drew F2 gp h.bag x.n (Rep.ext HF2.out hxc) HF.out.bag).mono ?_;rintro e w2 ⟨rfl, hq2⟩;have hm2 := HM2.out _ _ (Moved.ahead hxc hq2);have M2 := lh (HM1.out _ _ hm2.1);have hb2 := M2.out.blk;have hlb2 := (aG hb2).1;have hlg2 := (aG hm2.2).1;refine hK.out _ _ (HSS.out _ hm2.2 hb2) (fun hHeld => ?_);clear hK K;try simp only [pS]
    refine tK 7 ?_;try simp only [pS]
    refine tK 8 ?_;try simp only [pS]
    refine tK 9 ?_;try simp only [pS]
    refine tC 10 fun K hK => ?_;go_simp;refine hK.out _ _ (HSS.out _ ((Below.heap_alloc _ _ _ hlg2).trans hm2.2) ((Below.heap_alloc _ _ _ hlb2).trans hb2)) (fun hHeld => ?_);clear hK K;try simp only [pS]
    refine tC 11 fun K hK => ?_;go_simp;refine hK.out _ _ (HSS.out _ ((Below.heap_alloc _ _ _ hlg2).trans hm2.2) ((Below.heap_alloc _ _ _ hlb2).trans hb2)) (fun hHeld => ?_);clear hK K;try simp only [pS]
    refine tK 12 ?_;try simp only [pS]
    refine tD ?_;have M4 := lh (M2.out.box (pTake h.bag x.n).1.cells 103);clear hHeld M2 hb2 hm2 hq2 hlb2 hlg2 hlb hsz hb1 hc4 hcn hck hA;generalize w2.alloc (.cells (pTake h.bag x.n).1.cells 103) = w4 at M4 ⊢;generalize w2.heap.size = bz at M4 ⊢;have HFI := lh hfi;clear hfi;generalize hq : (pTake h.bag x.n).1 = q at *;have hz4 := M4.out.blk;have hb4 := M4.out.left.blk;obtain ⟨F5, hF5, hm5⟩ := M4.out.ff3;have HF5 := lh hF5;have HM5 := lh hm5;clear hF5 hm5;have hk4 := (cell_of hb4 0).trans (Step.get0 x);by_cases h3 : x.kind = 3
    ·have h3' : (x.kind == 3) = true := by simp [h3]
     have he := hPacket_3 hbag h3;rw [hq] at he;have HE := lh he;clear he h3;go_wp2_with fail
     refine (world_come w4 gw F5 (hTook h x.n) q HF5.out HFI.out.log HFI.out.done hst).mono ?_;rintro e w5 ⟨rfl, hq5⟩;have M5 := lh (HM5.out _ _ hq5);clear hq5;go_wp2
     go_ret
     rw [HE.out];exact ⟨rfl, M5.out.left.left⟩
    ·have h3' : (x.kind == 3) = false := by simp [h3]
     by_cases h7 : x.kind = 7
     ·have h7' : (x.kind == 7) = true := by simp [h7]
      obtain ⟨gs5, d0, d1, d2, gp5, hA5⟩ := world_open HF5.out;obtain ⟨Fs, hFs, ms⟩ := hA5.store;have HFS := lh hFs;have HMS := lh ms;have hc0 := (cell_of hA5.cell 0).trans (show (worldCells gs5 d0 d1 d2 gp5)[0]? = some (.pointer (some ⟨gs5, 0, none⟩)) from rfl);have hzr := (cell_of hz4 0).trans (Packet.get0 q);cases hrq : q.reply with
      | false =>
        have he := hPacket_7 hbag h7 (by rw [hq]; exact hrq);rw [hq] at he;have HE := lh he;rw [hrq] at hzr;clear he h7 hFs ms h3;have hx2 := HX.out.keep;go_wp2_with fail
        have HSS5 := lh (show ∀ w' : World, w'.heap[gw]? = some (.cells (worldCells gs5 d0 d1 d2 gp5) 60 (0, 0)) -> w'.heap[b]? = some (.cells x.cells 85 (0, 0)) -> w'.heap[bz]? = some (.cells q.cells 103 (0, 0)) -> w'.cell? ⟨gw, 0, none⟩ = some (.pointer (some ⟨gs5, 0, none⟩)) /\ w'.heap[bz]? = some (.cells q.cells 103 (0, 0)) /\ w'.cell? ⟨bz, 1, none⟩ = some (.int .i64 q.client) /\ w'.cell? ⟨bz, 2, none⟩ = some (.int .i64 q.no) /\ w'.cell? ⟨b, 2, none⟩ = some (.int .i64 x.keep) from
         fun w' h1 h2 h3 => ⟨cell_of h1 0, h3, (cell_of h3 1).trans (Packet.get1 q), (cell_of h3 2).trans (Packet.get2 q), (cell_of h2 2).trans (Step.get2 x)⟩)
        refine wp_region_held_drew (S := fun w' => w'.cell? ⟨gw, 0, none⟩ = some (.pointer (some ⟨gs5, 0, none⟩)) /\ w'.heap[bz]? = some (.cells q.cells 103 (0, 0)) /\ w'.cell? ⟨bz, 1, none⟩ = some (.int .i64 q.client) /\ w'.cell? ⟨bz, 2, none⟩ = some (.int .i64 q.no) /\ w'.cell? ⟨b, 2, none⟩ = some (.int .i64 x.keep)) (by kernel_rfl) (HSS5.out _ hA5.cell hb4 hz4) (fun hHeld => ?_);refine tK 0 ?_;try simp only [pS]
        refine tK 1 ?_;try simp only [pS]
        refine tK 2 ?_;try simp only [pS]
        refine tK 3 ?_ (hY := fun w' hw' => by
         obtain ⟨hh1, hh2, hh3, hh4, hh5⟩ := hw';go_simp;try with_reducible rfl)
        try simp only [pS]
        refine tK 4 ?_;try simp only [pS]
        refine tK 5 ?_ (hY := fun w' hw' => by
         obtain ⟨hh1, hh2, hh3, hh4, hh5⟩ := hw';go_simp;try with_reducible rfl)
        try simp only [pS]
        refine tK 6 ?_;try simp only [pS]
        refine tK 7 ?_ (hY := fun w' hw' => by
         obtain ⟨hh1, hh2, hh3, hh4, hh5⟩ := hw';go_simp;try with_reducible rfl)
        try simp only [pS]
        refine tK 8 ?_;try simp only [pS]
        refine tK 9 ?_ (hY := fun w' hw' => by
         obtain ⟨hh1, hh2, hh3, hh4, hh5⟩ := hw';go_simp;try with_reducible rfl)
        try simp only [pS]
        refine tK 10 ?_;try simp only [pS]
        refine tK 11 ?_ (hY := fun w' hw' => by
         obtain ⟨hh1, hh2, hh3, hh4, hh5⟩ := hw';go_simp;try with_reducible rfl)
        try simp only [pS]
        refine tC 12 fun K hK => ?_;go_simp;go_at_call 129
        have hx5 : Ext w4 w4.drew := Touch.drew (Touch.refl _ w4);refine (store_Tear w4.drew gs5 Fs h.S q.client q.no q.call x.keep (Rep.ext HFS.out hx5) HF.out.log hst hx2).mono ?_;rintro e w5 ⟨rfl, hq5⟩;have hm6 := HMS.out _ _ (Moved.ahead hx5 hq5);have M5 := lh (HM5.out _ _ hm6.1);refine hK.out _ _ (HSS5.out _ hm6.2 M5.out.left.blk M5.out.blk) (fun hHeld => ?_);clear hK K;try simp only [pS]
        refine tK 13 ?_;try simp only [pS]
        refine tD ?_;clear hm6 hq5 hHeld hA5;go_wp2
        go_ret
        rw [HE.out];exact ⟨rfl, M5.out.left.left⟩
      | true =>
        have he := hPacket_o hbag h5 h3 (fun h => by rw [hq, hrq] at h; cases h.2);have HE := lh he;rw [hrq] at hzr;clear he h7 hFs ms hA5 h3;go_wp2_with fail
        refine (store_crash2 w4 gs5 Fs _ HFS.out HFI.out.log).mono ?_;rintro e w5 ⟨rfl, hq5⟩;have M5 := lh (HM5.out _ _ (HMS.out _ _ hq5).1);clear hq5;go_wp2
        go_ret
        rw [HE.out];exact ⟨rfl, M5.out.left.left⟩
     ·have h7' : (x.kind == 7) = false := by simp [h7]
      have HE := lh (hPacket_o hbag h5 h3 (fun h => h7 h.1));go_wp2
      go_ret
      rw [HE.out];exact ⟨rfl, M4.out.left.left⟩
   ·skip
    go_simp;have hxa : Ext w1 (w1.alloc (.cells Packet.zero.cells 103)).drew := ((Touch.refl _ w1).alloc _).drew;have Ma := (M1.out.box Packet.zero.cells 103).behind (Touch.drew (Touch.refl _ _));refine hK.out _ _ (HSS.out _ (hxa.blk hA.cell id) (hxa.blk hb1 id)) (fun hHeld => ?_);clear hK K;try simp only [pS]
    have hAa := hxa.blk hA.cell id;generalize (w1.alloc (.cells Packet.zero.cells 103)).drew = wa at hxa Ma hAa ⊢;obtain ⟨bz, hbz⟩ : ∃ bz, b + 1 = bz := ⟨_, rfl⟩
    have nzb : bz ≠ b := by omega
    rw [hsz, hbz] at Ma;rw [hbz];obtain ⟨F3, hF3, hm3⟩ := Ma.ff3;obtain ⟨gs', d0, d1, d2, gp', hA3⟩ := world_open hF3;obtain ⟨rfl, rfl⟩ := world_same hAa hA3.cell;obtain ⟨F4, hF4, hm4⟩ := hA3.post;refine tC 6 fun K hK => ?_;go_simp;go_at_call 91
    refine (post_take2 wa F4 gp' h.bag x.n hF4 HF.out.bag).mono ?_;rintro e w2 ⟨rfl, hq2⟩;have hm2 := hm4 _ _ hq2;have M2 := lh (hm3 _ _ hm2.1);have hz2 := M2.out.blk;have hg2 := (cell_of hm2.2 4).trans (show (worldCells gs' d0 d1 d2 gp')[4]? = some (.pointer (some ⟨gp', 0, none⟩)) from rfl);have hng : bz ≠ gw := by have := (aG hA.cell).1; omega
    refine hK.out _ _ ⟨hg2, (cell_of M2.out.left.blk 1).trans (Step.get1 x)⟩ (fun hHeld => ?_);clear hK K;try simp only [pS]
    refine tK 7 ?_;try simp only [pS]
    refine tK 8 ?_;try simp only [pS]
    refine tK 9 ?_;try simp only [pS]
    refine tC 11 fun K hK => ?_;go_simp;have hz4 := setRow_heap _ _ _ (pTake h.bag x.n).1.cells _ _ hz2;have M4 := lh (M2.out.turnB (w' := w2.setRow bz (pTake h.bag x.n).1.cells) ((Touch.refl (fun k => k = bz) w2).setRow (.inl rfl) _) hz4);refine hK.out _ _ ⟨(cell_setRow_other _ _ _ _ _ (by simp [hng.symm])).trans hg2, (cell_of M4.out.left.blk 1).trans (Step.get1 x)⟩ (fun hHeld => ?_);clear hK K;try simp only [pS]
    refine tK 12 ?_;try simp only [pS]
    refine tD ?_;clear hHeld hm2 hz2 hz4 hlb hsz hb1 hc4 hcn hck hA hA3 hF3 hm3 hF4 hm4 Ma M2 hq2 hxa hAa hg2;generalize w2.setRow bz (pTake h.bag x.n).1.cells = w4 at M4 ⊢;have HFI := lh hfi;clear hfi;generalize hq : (pTake h.bag x.n).1 = q at *;have hz4 := M4.out.blk;have hb4 := M4.out.left.blk;obtain ⟨F5, hF5, hm5⟩ := M4.out.ff3;have HF5 := lh hF5;have HM5 := lh hm5;clear hF5 hm5;have hk4 := (cell_of hb4 0).trans (Step.get0 x);by_cases h3 : x.kind = 3
    ·have h3' : (x.kind == 3) = true := by simp [h3]
     have he := hPacket_3 hbag h3;rw [hq] at he;have HE := lh he;clear he h3;go_wp2_with fail
     refine (world_come w4 gw F5 (hTook h x.n) q HF5.out HFI.out.log HFI.out.done hst).mono ?_;rintro e w5 ⟨rfl, hq5⟩;have M5 := lh (HM5.out _ _ hq5);clear hq5;go_wp2
     go_ret
     rw [HE.out];exact ⟨rfl, M5.out.left.left⟩
    ·have h3' : (x.kind == 3) = false := by simp [h3]
     by_cases h7 : x.kind = 7
     ·have h7' : (x.kind == 7) = true := by simp [h7]
      obtain ⟨gs5, d0, d1, d2, gp5, hA5⟩ := world_open HF5.out;obtain ⟨Fs, hFs, ms⟩ := hA5.store;have HFS := lh hFs;have HMS := lh ms;have hc0 := (cell_of hA5.cell 0).trans (show (worldCells gs5 d0 d1 d2 gp5)[0]? = some (.pointer (some ⟨gs5, 0, none⟩)) from rfl);have hzr := (cell_of hz4 0).trans (Packet.get0 q);cases hrq : q.reply with
      | false =>
        have he := hPacket_7 hbag h7 (by rw [hq]; exact hrq);rw [hq] at he;have HE := lh he;rw [hrq] at hzr;clear he h7 hFs ms h3;have hx2 := HX.out.keep;go_wp2_with fail
        have HSS5 := lh (show ∀ w' : World, w'.heap[gw]? = some (.cells (worldCells gs5 d0 d1 d2 gp5) 60 (0, 0)) -> w'.heap[b]? = some (.cells x.cells 85 (0, 0)) -> w'.heap[bz]? = some (.cells q.cells 103 (0, 0)) -> w'.cell? ⟨gw, 0, none⟩ = some (.pointer (some ⟨gs5, 0, none⟩)) /\ w'.heap[bz]? = some (.cells q.cells 103 (0, 0)) /\ w'.cell? ⟨bz, 1, none⟩ = some (.int .i64 q.client) /\ w'.cell? ⟨bz, 2, none⟩ = some (.int .i64 q.no) /\ w'.cell? ⟨b, 2, none⟩ = some (.int .i64 x.keep) from
         fun w' h1 h2 h3 => ⟨cell_of h1 0, h3, (cell_of h3 1).trans (Packet.get1 q), (cell_of h3 2).trans (Packet.get2 q), (cell_of h2 2).trans (Step.get2 x)⟩)
        refine wp_region_held_drew (S := fun w' => w'.cell? ⟨gw, 0, none⟩ = some (.pointer (some ⟨gs5, 0, none⟩)) /\ w'.heap[bz]? = some (.cells q.cells 103 (0, 0)) /\ w'.cell? ⟨bz, 1, none⟩ = some (.int .i64 q.client) /\ w'.cell? ⟨bz, 2, none⟩ = some (.int .i64 q.no) /\ w'.cell? ⟨b, 2, none⟩ = some (.int .i64 x.keep)) (by kernel_rfl) (HSS5.out _ hA5.cell hb4 hz4) (fun hHeld => ?_);refine tK 0 ?_;try simp only [pS]
        refine tK 1 ?_;try simp only [pS]
        refine tK 2 ?_;try simp only [pS]
        refine tK 3 ?_ (hY := fun w' hw' => by
         obtain ⟨hh1, hh2, hh3, hh4, hh5⟩ := hw';go_simp;try with_reducible rfl)
        try simp only [pS]
        refine tK 4 ?_;try simp only [pS]
        refine tK 5 ?_ (hY := fun w' hw' => by
         obtain ⟨hh1, hh2, hh3, hh4, hh5⟩ := hw';go_simp;try with_reducible rfl)
        try simp only [pS]
        refine tK 6 ?_;try simp only [pS]
        refine tK 7 ?_ (hY := fun w' hw' => by
         obtain ⟨hh1, hh2, hh3, hh4, hh5⟩ := hw';go_simp;try with_reducible rfl)
        try simp only [pS]
        refine tK 8 ?_;try simp only [pS]
        refine tK 9 ?_ (hY := fun w' hw' => by
         obtain ⟨hh1, hh2, hh3, hh4, hh5⟩ := hw';go_simp;try with_reducible rfl)
        try simp only [pS]
        refine tK 10 ?_;try simp only [pS]
        refine tK 11 ?_ (hY := fun w' hw' => by
         obtain ⟨hh1, hh2, hh3, hh4, hh5⟩ := hw';go_simp;try with_reducible rfl)
        try simp only [pS]
        refine tC 12 fun K hK => ?_;go_simp;go_at_call 129
        have hx5 : Ext w4 w4.drew := Touch.drew (Touch.refl _ w4);refine (store_Tear w4.drew gs5 Fs h.S q.client q.no q.call x.keep (Rep.ext HFS.out hx5) HF.out.log hst hx2).mono ?_;rintro e w5 ⟨rfl, hq5⟩;have hm6 := HMS.out _ _ (Moved.ahead hx5 hq5);have M5 := lh (HM5.out _ _ hm6.1);refine hK.out _ _ (HSS5.out _ hm6.2 M5.out.left.blk M5.out.blk) (fun hHeld => ?_);clear hK K;try simp only [pS]
        refine tK 13 ?_;try simp only [pS]
        refine tD ?_;clear hm6 hq5 hHeld hA5;go_wp2
        go_ret
        rw [HE.out];exact ⟨rfl, M5.out.left.left⟩
      | true =>
        have he := hPacket_o hbag h5 h3 (fun h => by rw [hq, hrq] at h; cases h.2);have HE := lh he;rw [hrq] at hzr;clear he h7 hFs ms hA5 h3;go_wp2_with fail
        refine (store_crash2 w4 gs5 Fs _ HFS.out HFI.out.log).mono ?_;rintro e w5 ⟨rfl, hq5⟩;have M5 := lh (HM5.out _ _ (HMS.out _ _ hq5).1);clear hq5;go_wp2
        go_ret
        rw [HE.out];exact ⟨rfl, M5.out.left.left⟩
     ·have h7' : (x.kind == 7) = false := by simp [h7]
      have HE := lh (hPacket_o hbag h5 h3 (fun h => h7 h.1));go_wp2
      go_ret
      rw [HE.out];exact ⟨rfl, M4.out.left.left⟩
theorem code_str {c : Call} (h : callCode c = 0) : StrCall c := by
 have hf := callCode_form h;have hz : noText.size = 0 := rfl;refine ⟨?_, ?_, ?_⟩
 ·by_cases h6 : c.kind = 6
  ·rw [hf.1 h6, hz]; omega
  ·have := okText_le (callCode_name h h6); omega
 ·by_cases h3 : c.kind = 3
  ·have := okText_le (callCode_to h h3); omega
  ·rw [hf.2.1 h3, hz]; omega
 ·by_cases h4 : c.kind = 4
  ·have := okText_le (callCode_text h h4); omega
  ·rw [hf.2.2 h4, hz]; omega
theorem HouseOk.packet_str {h : House} {fr : Nat -> Nat} (hh : HouseOk h fr) {p : Packet} (hp : PacketOk h.S h.G fr p) : StrCall p.call :=
 code_str (hh.calls p.client.toNat (toNat_lt hp.client) p.call (List.mem_of_getElem? hp.nth.2))
theorem HouseOk.fits {h : House} {fr : Nat -> Nat} (hh : HouseOk h fr) : Fits h where
 log := hh.log
 bag := hh.bag
 calls := fun p hp => hh.packet_str (hh.packets p hp)
 done := fun i hi => by have := gOk_done (hh.guest i hi); omega
 no := fun i hi => by
  have h1 := (hh.guest i hi).le;have h2 := (hh.guest i hi).no;refine ⟨?_, h1⟩;split at h2 <;> omega
theorem hStep_1 {h : House} {x : Step} (hk : x.kind = 1) : hStep h x = hCall h x.n x.call := by unfold hStep; rw [if_pos hk]
theorem hStep_2 {h : House} {x : Step} (hk : x.kind = 2) : hStep h x = hSend h x.n := by unfold hStep; rw [if_neg (by omega), if_pos hk]
theorem hStep_p {h : House} {x : Step} (hk : x.kind = 3 \/ x.kind = 4 \/ x.kind = 5 \/ x.kind = 7) : hStep h x = hPacket h x := by unfold hStep; rw [if_neg (by omega), if_neg (by omega), if_pos hk]
theorem hStep_6 {h : House} {x : Step} (hk : x.kind = 6) : hStep h x = (0, h) := by unfold hStep; rw [if_neg (by omega), if_neg (by omega), if_neg (by omega), if_pos hk]
theorem hStep_o {h : House} {x : Step} (hk : x.kind < 1 \/ 7 < x.kind) : hStep h x = (1, h) := by unfold hStep; rw [if_neg (by omega), if_neg (by omega), if_neg (by omega), if_neg (by omega)]
theorem hCall_9 {h : House} {n : Int} {c : Call} (hn : ¬ (0 <= n /\ n < 3)) : hCall h n c = (9, h) := by unfold hCall; rw [if_pos hn]
theorem hCall_y {h : House} {n : Int} {c : Call} (hn : 0 <= n /\ n < 3) : hCall h n c = ((gAsk (h.G n.toNat) c).1, { h with G := upd h.G n.toNat (gAsk (h.G n.toNat) c).2 }) := by unfold hCall; rw [if_neg (fun x => x hn)]
theorem world_step (w : World) (gw : Nat) (F : Nat -> Prop) (h : House) (x : Step) (hh : (repWorld gw).on w F h) (hf : Fits h) (hx : StrWStep x) :
 Calls Tryz.prog 55 #[.pointer (some ⟨gw, 0, none⟩), .agg x.cells] w (Moves (repWorld gw) w F (hStep h x).2 (.int .i64 (hStep h x).1)) := by
 have HF := lh hf;have HX := lh hx;clear hf hx;by_cases k1 : x.kind = 1
 ·by_cases hn : 0 <= x.n /\ x.n < 3
  ·have HE := lh ((hStep_1 (h := h) k1).trans (hCall_y hn));have M1 := lh ((Rep.stays hh).box x.cells 85);have hb1 := M1.out.blk;have hck := (cell_of hb1 0).trans (Step.get0 x);have hcn := (cell_of hb1 1).trans (Step.get1 x);clear hh;go_enter Tryz.func55, Tryz.ntmps55
   go_wp2_with fail
   generalize w.alloc (.cells x.cells 85) = w1 at *;generalize w.heap.size = b at *;obtain ⟨F1, hF1, hm1⟩ := M1.out.fstM;obtain ⟨gs, c0, c1, c2, gp, hA⟩ := world_open hF1;obtain ⟨hcell, F2, hF2, m2⟩ := hA.client (n := x.n.toNat) (by omega);have HA := lh hA;have HF2 := lh hF2;have HM2 := lh m2;have HM1 := lh hm1;clear hA hF2 m2 hm1 hF1 hcell;refine (world_client w1 gw gs c0 c1 c2 gp HA.out.cell _ hn).mono ?_;rintro e w' ⟨rfl, rfl⟩;generalize pick3 c0 c1 c2 x.n.toNat = g at *;go_wp2_with fail
   refine (client_ask' w1 F2 g _ x.call HF2.out (HF.out.no _ (by omega)) HX.out.call.h1 HX.out.call.h2 HX.out.call.h3).mono ?_;rintro e w2 ⟨rfl, hq2⟩;have M2 := lh (HM1.out _ _ (HM2.out _ _ hq2).1);clear hq2;go_wp2
   go_ret
   rw [HE.out];exact ⟨rfl, M2.out.left⟩
  ·have HE := lh ((hStep_1 (h := h) k1).trans (hCall_9 hn));have M1 := lh ((Rep.stays hh).box x.cells 85);have hb1 := M1.out.blk;have hck := (cell_of hb1 0).trans (Step.get0 x);have hcn := (cell_of hb1 1).trans (Step.get1 x);clear hh;go_enter Tryz.func55, Tryz.ntmps55
   go_wp2_with fail
   generalize w.alloc (.cells x.cells 85) = w1 at *;generalize w.heap.size = b at *;refine (world_client_no w1 gw _ hn).mono ?_;rintro e w' ⟨rfl, rfl⟩;go_wp2
   go_ret
   rw [HE.out];exact ⟨rfl, M1.out.left⟩
 by_cases k2 : x.kind = 2
 ·have HE := lh (hStep_2 (h := h) k2);have M1 := lh ((Rep.stays hh).box x.cells 85);have hb1 := M1.out.blk;have hck := (cell_of hb1 0).trans (Step.get0 x);have hcn := (cell_of hb1 1).trans (Step.get1 x);clear hh;go_enter Tryz.func55, Tryz.ntmps55
  go_wp2_with fail
  generalize w.alloc (.cells x.cells 85) = w1 at *;generalize w.heap.size = b at *;obtain ⟨F1, hF1, hm1⟩ := M1.out.fstM;have HM1 := lh hm1;refine (world_send w1 gw F1 h x.n hF1).mono ?_;rintro e w2 ⟨rfl, hq2⟩;have M2 := lh (HM1.out _ _ hq2);clear hq2;go_wp2
  go_ret
  rw [HE.out];exact ⟨rfl, M2.out.left⟩
 by_cases k6 : x.kind = 6
 ·have HE := lh (hStep_6 (h := h) k6);have M1 := lh ((Rep.stays hh).box x.cells 85);have hb1 := M1.out.blk;have hck := (cell_of hb1 0).trans (Step.get0 x);obtain ⟨F1, hF1, hm1⟩ := M1.out.fstM;obtain ⟨gs, c0, c1, c2, gp, hA⟩ := world_open hF1;obtain ⟨F2, hF2, m2⟩ := hA.store;have hc0 := (cell_of hA.cell 0).trans (show (worldCells gs c0 c1 c2 gp)[0]? = some (.pointer (some ⟨gs, 0, none⟩)) from rfl);have HF2 := lh hF2;have HM2 := lh m2;have HM1 := lh hm1;clear hh hA hF2 m2 hm1 hF1;go_enter Tryz.func55, Tryz.ntmps55
  go_wp2_with fail
  generalize w.alloc (.cells x.cells 85) = w1 at *;refine (store_crash2 w1 gs F2 _ HF2.out HF.out.log).mono ?_;rintro e w2 ⟨rfl, hq2⟩;have M2 := lh (HM1.out _ _ (HM2.out _ _ hq2).1);clear hq2;go_wp2
  go_ret
  rw [HE.out];exact ⟨rfl, M2.out.left⟩
 by_cases kp : x.kind = 3 \/ x.kind = 4 \/ x.kind = 5 \/ x.kind = 7
 ·have HE := lh (hStep_p (h := h) kp);rcases kp with k | k | k | k
  all_goals
   clear k1 k2 k6;have M1 := lh ((Rep.stays hh).box x.cells 85);have hb1 := M1.out.blk;have hck := (cell_of hb1 0).trans (Step.get0 x);have hcn := (cell_of hb1 1).trans (Step.get1 x);clear hh;go_enter Tryz.func55, Tryz.ntmps55
   go_wp2_with fail
   generalize w.alloc (.cells x.cells 85) = w1 at *;generalize w.heap.size = b at *;obtain ⟨F1, hF1, hm1⟩ := M1.out.fstM;have HM1 := lh hm1;have HF1 := lh hF1;clear hF1 hm1;go_wp2_with fail
   refine (world_packet w1 gw F1 h x HF1.out HF.out HX.out).mono ?_;rintro e w2 ⟨rfl, hq2⟩;have M2 := lh (HM1.out _ _ hq2);clear hq2;go_wp2
   go_ret
   rw [HE.out];exact ⟨rfl, M2.out.left⟩
 ·have hk : x.kind < 1 \/ 7 < x.kind := by omega
  have HE := lh (hStep_o (h := h) hk);clear k1 k2 k6 kp;rcases hk with hk | hk
  all_goals
   have M1 := lh ((Rep.stays hh).box x.cells 85);have hb1 := M1.out.blk;have hck := (cell_of hb1 0).trans (Step.get0 x);have hcn := (cell_of hb1 1).trans (Step.get1 x);clear hh;go_enter Tryz.func55, Tryz.ntmps55
   go_wp2_with fail
   generalize w.alloc (.cells x.cells 85) = w1 at *;generalize w.heap.size = b at *;go_wp2
   go_ret
   rw [HE.out];exact ⟨rfl, M1.out.left⟩
theorem world_same5 {w : World} {gw gs c0 c1 c2 gp gs' d0 d1 d2 gp' : Nat} {T : TypeId} (h1 : w.heap[gw]? = some (.cells (worldCells gs c0 c1 c2 gp) T (0, 0))) (h2 : w.heap[gw]? = some (.cells (worldCells gs' d0 d1 d2 gp') T (0, 0))) : gs' = gs /\ d0 = c0 /\ d1 = c1 /\ d2 = c2 /\ gp' = gp := by
 rw [h1] at h2;simp [worldCells] at h2;exact ⟨h2.1.symm, h2.2.1.symm, h2.2.2.1.symm, h2.2.2.2.1.symm, h2.2.2.2.2.symm⟩
@[go_sem ↓] theorem run_index3_0 (a b c : Option Addr) (w : World) : (Instr.index 58 (.agg #[.pointer a, .pointer b, .pointer c]) (.int .i64 0)).run Tryz.prog w = .ok (.pointer a) w := by
  simp [Instr.index, asIntOf, run_underlying Tryz.underlying58, part, Tryz.isAgg57, Tryz.sizeOf57]
@[go_sem ↓] theorem run_index3_1 (a b c : Option Addr) (w : World) : (Instr.index 58 (.agg #[.pointer a, .pointer b, .pointer c]) (.int .i64 1)).run Tryz.prog w = .ok (.pointer b) w := by
  simp [Instr.index, asIntOf, run_underlying Tryz.underlying58, part, Tryz.isAgg57, Tryz.sizeOf57]
@[go_sem ↓] theorem run_index3_2 (a b c : Option Addr) (w : World) : (Instr.index 58 (.agg #[.pointer a, .pointer b, .pointer c]) (.int .i64 2)).run Tryz.prog w = .ok (.pointer c) w := by
  simp [Instr.index, asIntOf, run_underlying Tryz.underlying58, part, Tryz.isAgg57, Tryz.sizeOf57]
def CalmRel (w : World) (gw : Nat) (F : Nat -> Prop) (h : House) (i : Value) (wr : World) : Prop :=
 ∃ k : Nat, i = .int .i64 k /\ k <= 3 /\ (∀ j, j < k -> busy (hDrain (hRound h j)) = true) /\ Moved (repWorld gw) w F (hRound h k) wr
def DrainRel (w : World) (gw : Nat) (F : Nat -> Prop) (H : House) (fr : Nat -> Nat) (n : Nat) (wr : World) : Prop :=
 ∃ h' : House, weigh h'.bag = n /\ HouseOk h' fr /\ hDrain h' = H /\ Moved (repWorld gw) w F h' wr
def SendRel (w : World) (gw gs c0 c1 c2 gp : Nat) (F : Nat -> Prop) (H : House) (b i : Value) (wr : World) : Prop :=
 ∃ k : Nat, i = .int .i64 k /\ k <= 3 /\ b = .bool (busyUpto H k) /\ Moved (repWorld gw) w F (hSendUpto H k) wr /\ wr.heap[gw]? = some (.cells (worldCells gs c0 c1 c2 gp) 60 (0, 0))
theorem pTake_yes {l : List Packet} (h : l ≠ []) (n : Int) : (pTake l n).2.1 = true := by
 have hlt := rnd_lt n l.length (List.length_pos_iff.2 h);unfold pTake;rw [List.getElem?_eq_getElem hlt]
theorem hSend1_open {H : House} {i : Nat} (h : (H.G i).isOpen = true) : hSend1 H i = (hSend H i).2 := by unfold hSend1; rw [if_pos h]
theorem hSend1_shut {H : House} {i : Nat} (h : (H.G i).isOpen = false) : hSend1 H i = H := by unfold hSend1; rw [if_neg (by rw [h]; decide)]
theorem hSendAll_shut {H : House} (hb : busy H = false) : hSendAll H = H := by
 unfold hSendAll;rw [hSend1_shut (of_busy hb (i := 0) (by omega)), hSend1_shut (of_busy hb (i := 1) (by omega)), hSend1_shut (of_busy hb (i := 2) (by omega))]
theorem world_calm (w : World) (gw : Nat) (F : Nat -> Prop) (h : House) (fr : Nat -> Nat) (hh : (repWorld gw).on w F h) (hok : HouseOk h fr) :
 Calls Tryz.prog 57 #[.pointer (some ⟨gw, 0, none⟩)] w (Moves (repWorld gw) w F (hCalm h).2 (.int .i64 (hCalm h).1)) := by
 have HOK := lh hok;have M0 := lh (Rep.stays hh);clear hok hh;go_enter Tryz.func57, Tryz.ntmps57
 go_wp2_with fail
 go_loopw [3] (fun i wr => CalmRel w gw F h i wr) (fun i _ => 3 - (intOf i).toNat)
 case atStart => exact ⟨0, rfl, by omega, fun j hj => by omega, M0.out⟩
 case round =>
  clear M0;obtain ⟨k, rfl, hk, hbz, hm⟩ := hrel;have HM := lh hm;have HBZ := lh hbz;clear hm hbz;by_cases hlt : k < 3
  ·have hlt' : (k : Int) < 3 := by omega
   go_wp2_with fail
   go_loopg [] (weigh (hRound h k).bag) (fun n wr => DrainRel w gw F (hDrain (hRound h k)) fr n wr)
   case atStart => exact ⟨_, rfl, hRound_ok HOK.out k, rfl, HM.out⟩
   case round =>
    clear HM;obtain ⟨h', hn, hok', hd, hm⟩ := hrel;have HOK1 := lh hok';have HD := lh hd;have HN := lh hn;obtain ⟨F2, hF2, hm2⟩ := hm.opened;obtain ⟨gs, c0, c1, c2, gp, hA⟩ := world_open hF2;obtain ⟨Fp, hFp, hmp⟩ := hA.post;have hc4 := (cell_of hA.cell 4).trans (show (worldCells gs c0 c1 c2 gp)[4]? = some (.pointer (some ⟨gp, 0, none⟩)) from rfl);have HFP := lh hFp;have HMP := lh hmp;have HM2 := lh hm2;have HM := lh hm;have HA := lh hA;clear hok' hd hn hm hF2 hm2 hA hFp hmp;go_wp2_with fail
    refine (post_len2 wr Fp gp h'.bag HFP.out).mono ?_;rintro e w' ⟨rfl, rfl⟩;by_cases hb : h'.bag = []
    ·have hl0 : (h'.bag.length : Int) = 0 := by rw [hb]; rfl
     have HH := lh (show h' = hDrain (hRound h k) from (hDrain_nil hb).symm.trans HD.out);rw [hl0];have HM4 := lh (show Moved (repWorld gw) w F (hDrain (hRound h k)) wr from HH.out ▸ HM.out);have HG4 := lh HA.out.cell;have hc1 := (cell_of HA.out.cell 1).trans (show (worldCells gs c0 c1 c2 gp)[1]? = some (.pointer (some ⟨c0, 0, none⟩)) from rfl);have hc2 := (cell_of HA.out.cell 2).trans (show (worldCells gs c0 c1 c2 gp)[2]? = some (.pointer (some ⟨c1, 0, none⟩)) from rfl);have hc3 := (cell_of HA.out.cell 3).trans (show (worldCells gs c0 c1 c2 gp)[3]? = some (.pointer (some ⟨c2, 0, none⟩)) from rfl);clear HM2 HMP HFP HOK1 HD HN HH HM HA hb;go_wp2_with fail
     go_loopw [6, 34] (fun b i wr => SendRel w gw gs c0 c1 c2 gp F (hDrain (hRound h k)) b i wr) (fun _ i _ => 3 - (intOf i).toNat)
     case atStart => exact ⟨0, rfl, by omega, rfl, HM4.out, HG4.out⟩
     case round =>
      clear HM4 HG4 hc1 hc2 hc3 hc4;obtain ⟨q, rfl, hq, rfl, hm4, hg4⟩ := hrel;have HM4 := lh hm4;have HG4 := lh hg4;clear hm4 hg4;by_cases hq3 : q = 3
      ·subst hq3;rw [busyUpto_3] at *;have HMX := lh (show Moved (repWorld gw) w F (hSendAll (hDrain (hRound h k))) wr from HM4.out);cases hbu : busy (hDrain (hRound h k)) with
       | false =>
         have HE := lh (hCalm_still hlt HBZ.out hbu);have HSH := lh (show Moved (repWorld gw) w F (hDrain (hRound h k)) wr from hSendAll_shut hbu ▸ HMX.out);clear hbu;go_wp2
         go_ret
         rw [HE.out];exact ⟨rfl, HSH.out⟩
       | true =>
         have HBZ' := lh (show ∀ j, j < k + 1 -> busy (hDrain (hRound h j)) = true from fun j hj => by
          by_cases e : j = k
          ·subst e; exact hbu
          ·exact HBZ.out j (by omega))
         go_wp2
         go_roundw
         case rel => exact ⟨k + 1, by go_num, by omega, HBZ'.out, HMX.out⟩
         case measure => simp [intOf]; omega
      ·obtain rfl | rfl | rfl : q = 0 \/ q = 1 \/ q = 2 := by omega
       ·have hbu : busyUpto (hDrain (hRound h k)) 1 = (busyUpto (hDrain (hRound h k)) 0 || ((hDrain (hRound h k)).G 0).isOpen) := rfl;obtain ⟨F2, hF2, hm2⟩ := HM4.out.opened;obtain ⟨gs', d0, d1, d2, gp', hA⟩ := world_open hF2;obtain ⟨rfl, rfl, rfl, rfl, rfl⟩ := world_same5 hA.cell HG4.out;obtain ⟨Fc, hFc, _⟩ := hA.cl0;have HF2 := lh hF2;have HM2 := lh hm2;have HFC := lh hFc;have HA := lh hA;have hGG := hSendUpto_G (hDrain (hRound h k)) 0;have HUP := lh (show hSendUpto (hDrain (hRound h k)) 1 = hSend1 (hSendUpto (hDrain (hRound h k)) 0) 0 from rfl);generalize hSendUpto (hDrain (hRound h k)) 0 = H1 at *;clear hF2 hm2 hFc hA;cases ho : ((hDrain (hRound h k)).G 0).isOpen with
        | true =>
          have hoo : (H1.G 0).isOpen = true := by rw [hGG]; exact ho
          have HE := lh (hSend1_open hoo);have HBU := lh (show busyUpto (hDrain (hRound h k)) 1 = true by rw [hbu, ho, Bool.or_true]);clear hbu ho;go_wp2_with fail
          refine (client_open' wr Fc _ _ HFC.out).mono ?_;rw [hoo];rintro e w' ⟨rfl, rfl⟩;clear hoo hGG;go_wp2_with fail
          refine (world_send_at wr gw F2 H1 0 HF2.out).mono ?_;rintro e w5 ⟨⟨rfl, hq5⟩, hg5⟩;have HM5 := lh (HM2.out _ _ hq5);have HG5 := lh (hg5.trans HA.out.cell);clear hq5 hg5;go_wp2
          go_roundw
          case rel => exact ⟨1, by go_num, by omega, by rw [HBU.out], by rw [HUP.out, HE.out]; exact HM5.out, HG5.out⟩
          case measure => simp [intOf]
        | false =>
          have hoo : (H1.G 0).isOpen = false := by rw [hGG]; exact ho
          have HE := lh (hSend1_shut hoo);have HBU := lh (show busyUpto (hDrain (hRound h k)) 1 = busyUpto (hDrain (hRound h k)) 0 by rw [hbu, ho, Bool.or_false]);clear hbu ho;go_wp2_with fail
          refine (client_open' wr Fc _ _ HFC.out).mono ?_;rw [hoo];rintro e w' ⟨rfl, rfl⟩;clear hoo hGG;go_wp2
          go_roundw
          case rel => exact ⟨1, by go_num, by omega, by rw [HBU.out], by rw [HUP.out, HE.out]; exact HM4.out, HG4.out⟩
          case measure => simp [intOf]
       ·have hbu : busyUpto (hDrain (hRound h k)) 2 = (busyUpto (hDrain (hRound h k)) 1 || ((hDrain (hRound h k)).G 1).isOpen) := rfl;obtain ⟨F2, hF2, hm2⟩ := HM4.out.opened;obtain ⟨gs', d0, d1, d2, gp', hA⟩ := world_open hF2;obtain ⟨rfl, rfl, rfl, rfl, rfl⟩ := world_same5 hA.cell HG4.out;obtain ⟨Fc, hFc, _⟩ := hA.cl1;have HF2 := lh hF2;have HM2 := lh hm2;have HFC := lh hFc;have HA := lh hA;have hGG := hSendUpto_G (hDrain (hRound h k)) 1;have HUP := lh (show hSendUpto (hDrain (hRound h k)) 2 = hSend1 (hSendUpto (hDrain (hRound h k)) 1) 1 from rfl);generalize hSendUpto (hDrain (hRound h k)) 1 = H1 at *;clear hF2 hm2 hFc hA;cases ho : ((hDrain (hRound h k)).G 1).isOpen with
        | true =>
          have hoo : (H1.G 1).isOpen = true := by rw [hGG]; exact ho
          have HE := lh (hSend1_open hoo);have HBU := lh (show busyUpto (hDrain (hRound h k)) 2 = true by rw [hbu, ho, Bool.or_true]);clear hbu ho;go_wp2_with fail
          refine (client_open' wr Fc _ _ HFC.out).mono ?_;rw [hoo];rintro e w' ⟨rfl, rfl⟩;clear hoo hGG;go_wp2_with fail
          refine (world_send_at wr gw F2 H1 1 HF2.out).mono ?_;rintro e w5 ⟨⟨rfl, hq5⟩, hg5⟩;have HM5 := lh (HM2.out _ _ hq5);have HG5 := lh (hg5.trans HA.out.cell);clear hq5 hg5;go_wp2
          go_roundw
          case rel => exact ⟨2, by go_num, by omega, by rw [HBU.out], by rw [HUP.out, HE.out]; exact HM5.out, HG5.out⟩
          case measure => simp [intOf]
        | false =>
          have hoo : (H1.G 1).isOpen = false := by rw [hGG]; exact ho
          have HE := lh (hSend1_shut hoo);have HBU := lh (show busyUpto (hDrain (hRound h k)) 2 = busyUpto (hDrain (hRound h k)) 1 by rw [hbu, ho, Bool.or_false]);clear hbu ho;go_wp2_with fail
          refine (client_open' wr Fc _ _ HFC.out).mono ?_;rw [hoo];rintro e w' ⟨rfl, rfl⟩;clear hoo hGG;go_wp2
          go_roundw
          case rel => exact ⟨2, by go_num, by omega, by rw [HBU.out], by rw [HUP.out, HE.out]; exact HM4.out, HG4.out⟩
          case measure => simp [intOf]
       ·have hbu : busyUpto (hDrain (hRound h k)) 3 = (busyUpto (hDrain (hRound h k)) 2 || ((hDrain (hRound h k)).G 2).isOpen) := rfl;obtain ⟨F2, hF2, hm2⟩ := HM4.out.opened;obtain ⟨gs', d0, d1, d2, gp', hA⟩ := world_open hF2;obtain ⟨rfl, rfl, rfl, rfl, rfl⟩ := world_same5 hA.cell HG4.out;obtain ⟨Fc, hFc, _⟩ := hA.cl2;have HF2 := lh hF2;have HM2 := lh hm2;have HFC := lh hFc;have HA := lh hA;have hGG := hSendUpto_G (hDrain (hRound h k)) 2;have HUP := lh (show hSendUpto (hDrain (hRound h k)) 3 = hSend1 (hSendUpto (hDrain (hRound h k)) 2) 2 from rfl);generalize hSendUpto (hDrain (hRound h k)) 2 = H1 at *;clear hF2 hm2 hFc hA;cases ho : ((hDrain (hRound h k)).G 2).isOpen with
        | true =>
          have hoo : (H1.G 2).isOpen = true := by rw [hGG]; exact ho
          have HE := lh (hSend1_open hoo);have HBU := lh (show busyUpto (hDrain (hRound h k)) 3 = true by rw [hbu, ho, Bool.or_true]);clear hbu ho;go_wp2_with fail
          refine (client_open' wr Fc _ _ HFC.out).mono ?_;rw [hoo];rintro e w' ⟨rfl, rfl⟩;clear hoo hGG;go_wp2_with fail
          refine (world_send_at wr gw F2 H1 2 HF2.out).mono ?_;rintro e w5 ⟨⟨rfl, hq5⟩, hg5⟩;have HM5 := lh (HM2.out _ _ hq5);have HG5 := lh (hg5.trans HA.out.cell);clear hq5 hg5;go_wp2
          go_roundw
          case rel => exact ⟨3, by go_num, by omega, by rw [HBU.out], by rw [HUP.out, HE.out]; exact HM5.out, HG5.out⟩
          case measure => simp [intOf]
        | false =>
          have hoo : (H1.G 2).isOpen = false := by rw [hGG]; exact ho
          have HE := lh (hSend1_shut hoo);have HBU := lh (show busyUpto (hDrain (hRound h k)) 3 = busyUpto (hDrain (hRound h k)) 2 by rw [hbu, ho, Bool.or_false]);clear hbu ho;go_wp2_with fail
          refine (client_open' wr Fc _ _ HFC.out).mono ?_;rw [hoo];rintro e w' ⟨rfl, rfl⟩;clear hoo hGG;go_wp2
          go_roundw
          case rel => exact ⟨3, by go_num, by omega, by rw [HBU.out], by rw [HUP.out, HE.out]; exact HM4.out, HG4.out⟩
          case measure => simp [intOf]
    ·have hl0 : ¬ (h'.bag.length : Int) <= 0 := by
      have : h'.bag.length ≠ 0 := fun e => hb (List.eq_nil_of_length_eq_zero e);omega
     have HB := lh hb;have hty := pTake_yes hb 0;clear hb;go_wp2_with fail
     refine (post_take2 wr Fp gp h'.bag 0 HFP.out HOK1.out.bag).mono ?_;rintro e w3 ⟨rfl, hq3⟩;have M3 := lh ((HM2.out _ _ (HMP.out _ _ hq3).1).box (pTake h'.bag 0).1.cells 103);have HW := lh (hDrain1_weigh HB.out);have HD1 := lh (show hDrain (hDrain1 h') = hDrain (hRound h k) from (hDrain_step HB.out).symm.trans HD.out);have HOK2 := lh (hDrain1_ok HOK1.out HB.out);have HFI := lh (hTook_fits HOK1.out.fits 0);have HST := lh (HOK1.out.packet_str (HOK1.out.packets _ (pTake_took 0 HB.out)));have HDE := lh (show hDrain1 h' = hCome (hTook h' 0) (pTake h'.bag 0).1 from rfl);rw [hty];clear hq3 hty hc4 hl0 HM HA HM2 HMP HFP HD;generalize (pTake h'.bag 0).1 = p at *;have hb3 : (w3.alloc (.cells p.cells 103)).heap[w3.heap.size]? = some (.cells p.cells 103 (0, 0)) := heap_alloc_new _ _;go_wp2_with fail
     clear hb3;obtain ⟨F5, hF5, hm5⟩ := M3.out.fstM;refine (world_come _ gw F5 (hTook h' 0) p hF5 HFI.out.log HFI.out.done HST.out).mono ?_;rintro e w5 ⟨rfl, hq5⟩;have m5 := hm5 _ _ hq5;rw [<- HDE.out] at m5;have M5 := lh m5.left;clear hF5 hm5 hq5 m5 M3;go_wp2
     go_roundg (weigh (hDrain1 h').bag)
     case measure => rw [<- HN.out]; exact HW.out
     case rel => exact ⟨hDrain1 h', rfl, HOK2.out, HD1.out, M5.out⟩
  ·obtain rfl : k = 3 := by omega
   have HE := lh (hCalm_loud HBZ.out);go_wp2
   go_ret
   rw [HE.out];exact ⟨rfl, HM.out⟩
def newCells (gs gp : Nat) (a b c : Option Addr) : Array Value := #[.pointer (some ⟨gs, 0, none⟩), .pointer a, .pointer b, .pointer c, .pointer (some ⟨gp, 0, none⟩)]
abbrev N0 (gs gp : Nat) : Rep (List Record × List Packet) := (repStore gs).and (repPost gp)
theorem world_made {W w : World} {gw gs gp c0 c1 c2 : Nat}
 (h : Has (((((N0 gs gp).and (repCl c0)).and (repCl c1)).and (repCl c2)).and (repBlock gw 60)) W w (((((([] : List Record), ([] : List Packet)), gNew 0), gNew 1), gNew 2), newCells gs gp (some ⟨c0, 0, none⟩) (some ⟨c1, 0, none⟩) (some ⟨c2, 0, none⟩))) :
 Has (repWorld gw) W w hNew := by
 have h1 := h.map fun _ => Rep.cg fun _ => Rep.cg fun _ => Rep.cg fun _ => Rep.ex;have h2 := h1.map fun _ => Rep.cg fun _ => Rep.cg fun _ => Rep.ex;have h3 := h2.map fun _ => Rep.cg fun _ => Rep.ex;have h4 := h3.map fun _ => Rep.ex;have h5 := h4.map fun _ => Rep.cg fun _ => Rep.ex;have h6 := h5.map fun _ => Rep.cg fun _ => Rep.cg fun _ => Rep.ex;have h7 := h6.map fun _ => Rep.cg fun _ => Rep.cg fun _ => Rep.cg fun _ => Rep.ex;have h8 := h7.map fun _ => Rep.cg fun _ => Rep.cg fun _ => Rep.cg fun _ => Rep.cg fun _ => Rep.sw;exact h8.map fun _ hh => ⟨gs, c0, c1, c2, gp, hh⟩
theorem guest_add {X : Type} {R : Rep X} {W w : World} {x : X} {cs : Array Value} {gw : Nat} {T : TypeId} (h : Has (R.and (repBlock gw T)) W w (x, cs)) (me : Int) :
 Has ((R.and (repCl w.heap.size)).and (repBlock gw T)) W (w.alloc (.cells ((gNew me).cells (.slice none 0 0)) 119)) ((x, gNew me), cs) :=
 (h.beside (G := foot w.heap.size (.slice none 0 0)) (S := repCl w.heap.size) (y := gNew me) ((Touch.refl _ w).alloc _) ⟨_, fun _ => Iff.rfl, heap_alloc_new _ _, Owns.nil _ _⟩ (foot_new w)).exch'
abbrev PB (gw : Nat) : Rep (Array Value) := repBlock gw 60
def NewRel (W : World) (gw gs gp : Nat) (i : Value) (wr : World) : Prop :=
 (i = .int .i64 0 /\ Has ((N0 gs gp).and (PB gw)) W wr (([], []), newCells gs gp none none none)) \/
 (i = .int .i64 1 /\ ∃ c0, Has (((N0 gs gp).and (repCl c0)).and (PB gw)) W wr ((([], []), gNew 0), newCells gs gp (some ⟨c0, 0, none⟩) none none)) \/
 (i = .int .i64 2 /\ ∃ c0 c1, Has ((((N0 gs gp).and (repCl c0)).and (repCl c1)).and (PB gw)) W wr (((([], []), gNew 0), gNew 1), newCells gs gp (some ⟨c0, 0, none⟩) (some ⟨c1, 0, none⟩) none)) \/
 (i = .int .i64 3 /\ Has (repWorld gw) W wr hNew)
def NewWorld (W : World) (e : Ending) (w' : World) : Prop := ∃ gw, e = .returned (.pointer (some ⟨gw, 0, none⟩)) /\ Has (repWorld gw) W w' hNew
theorem world_new (W : World) : Calls Tryz.prog 11 #[] W (NewWorld W) := by
 go_enter Tryz.func11, Tryz.ntmps11
 go_wp2_with fail
 refine (store_new W).mono ?_;rintro e w1 ⟨rfl, hn1, -⟩;have H1 := lh (show Has (repStore (W.heap.size + 1)) W w1 ([] : List Record) from ⟨hn1.2, hn1.1⟩);clear hn1;generalize W.heap.size + 1 = gs at H1 ⊢;go_wp2_with fail
 refine (post_new w1).mono ?_;rintro e w2 ⟨rfl, rfl⟩
 have h2 : Has (N0 gs w1.heap.size) W (w1.alloc (.cells #[.slice none 0 0] 117)) ([], []) :=
  H1.out.beside (G := foot w1.heap.size (.slice none 0 0)) (S := repPost w1.heap.size) (y := []) ((Touch.refl _ w1).alloc _) ⟨_, fun _ => Iff.rfl, Holds.new w1 _ _⟩ (foot_new w1)
 have H2 := lh h2;clear h2 H1;generalize w1.alloc (.cells #[.slice none 0 0] 117) = w2 at H2 ⊢;generalize w1.heap.size = gp at H2 ⊢;have H3 := lh (H2.out.box (newCells gs gp none none none) 60);clear H2;go_wp2_with fail
 change Code.wp Tryz.prog _ _ _ (w2.alloc (.cells (newCells gs gp none none none) 60));generalize w2.alloc (.cells (newCells gs gp none none none) 60) = w3 at H3 ⊢;generalize w2.heap.size = gw at H3 ⊢;go_loopw [7] (fun i wr => NewRel W gw gs gp i wr) (fun i _ => 3 - (intOf i).toNat)
 case atStart => exact .inl ⟨rfl, H3.out⟩
 case round =>
  clear H3;rcases hrel with ⟨rfl, hz⟩ | ⟨rfl, c0, hz⟩ | ⟨rfl, c0, c1, hz⟩ | ⟨rfl, hz⟩
  ·have HZ := lh hz;have hb := hz.blk;clear hz;go_wp2_with fail
   refine wp_region_held_drew (S := fun _ => True) (by kernel_rfl) trivial (fun hHeld => ?_);refine tK 0 ?_;try simp only [pS]
   refine tK 1 ?_;try simp only [pS]
   refine tK 2 ?_;try simp only [pS]
   refine tK 4 ?_;try simp only [pS]
   refine tK 5 ?_;try simp only [pS]
   refine tC 3 fun K hK => ?_;go_simp;go_at_call 21
   refine (client_new_yes _ 0 (by decide)).mono ?_;rintro e w2 ⟨rfl, rfl⟩;have h2 := guest_add (HZ.out.step (Touch.drew (Touch.refl _ wr))) 0;clear hHeld;refine hK.out _ _ trivial (fun hHeld => ?_);clear hK K;try simp only [pS]
   have HZ2 := lh h2;clear hb h2;generalize wr.drew.heap.size = c at HZ2 ⊢;generalize wr.drew.alloc (.cells ((gNew 0).cells (.slice none 0 0)) 119) = w2 at HZ2 ⊢;refine tK 6 ?_;try simp only [pS]
   have hb2 := HZ2.out.blk;have hc2 := cell_of hb2 1;have hf2 := frozen_of hb2 1;refine tC 7 fun K hK => ?_;go_simp;have hb3 := setCell_heap hb2 1 (.pointer (some ⟨c, 0, none⟩));have HZ3 := lh (HZ2.out.turn ((Touch.refl (fun k => k = gw) w2).setCell (a := ⟨gw, 1, none⟩) (.inl rfl) _) hb3);clear hHeld;refine hK.out _ _ trivial (fun hHeld => ?_);clear hK K;try simp only [Act.put]
   clear hb2 hc2 hf2 hb3 hHeld;refine tD ?_;generalize w2.setCell ⟨gw, 1, none⟩ (.pointer (some ⟨c, 0, none⟩)) = w3 at HZ3 ⊢;go_wp2
   go_roundw
   case rel => exact .inr (.inl ⟨rfl, c, HZ3.out⟩)
   case measure => simp [intOf]
  ·have HZ := lh hz;have hb := hz.blk;clear hz;go_wp2_with fail
   refine wp_region_held_drew (S := fun _ => True) (by kernel_rfl) trivial (fun hHeld => ?_);refine tK 0 ?_;try simp only [pS]
   refine tK 1 ?_;try simp only [pS]
   refine tK 2 ?_;try simp only [pS]
   refine tK 4 ?_;try simp only [pS]
   refine tK 5 ?_;try simp only [pS]
   refine tC 3 fun K hK => ?_;go_simp;go_at_call 21
   refine (client_new_yes _ 1 (by decide)).mono ?_;rintro e w2 ⟨rfl, rfl⟩;have h2 := guest_add (HZ.out.step (Touch.drew (Touch.refl _ wr))) 1;clear hHeld;refine hK.out _ _ trivial (fun hHeld => ?_);clear hK K;try simp only [pS]
   have HZ2 := lh h2;clear hb h2;generalize wr.drew.heap.size = c at HZ2 ⊢;generalize wr.drew.alloc (.cells ((gNew 1).cells (.slice none 0 0)) 119) = w2 at HZ2 ⊢;refine tK 6 ?_;try simp only [pS]
   have hb2 := HZ2.out.blk;have hc2 := cell_of hb2 2;have hf2 := frozen_of hb2 2;refine tC 7 fun K hK => ?_;go_simp;have hb3 := setCell_heap hb2 2 (.pointer (some ⟨c, 0, none⟩));have HZ3 := lh (HZ2.out.turn ((Touch.refl (fun k => k = gw) w2).setCell (a := ⟨gw, 2, none⟩) (.inl rfl) _) hb3);clear hHeld;refine hK.out _ _ trivial (fun hHeld => ?_);clear hK K;try simp only [Act.put]
   clear hb2 hc2 hf2 hb3 hHeld;refine tD ?_;generalize w2.setCell ⟨gw, 2, none⟩ (.pointer (some ⟨c, 0, none⟩)) = w3 at HZ3 ⊢;go_wp2
   go_roundw
   case rel => exact .inr (.inr (.inl ⟨rfl, c0, c, HZ3.out⟩))
   case measure => simp [intOf]
  ·have HZ := lh hz;have hb := hz.blk;clear hz;go_wp2_with fail
   refine wp_region_held_drew (S := fun _ => True) (by kernel_rfl) trivial (fun hHeld => ?_);refine tK 0 ?_;try simp only [pS]
   refine tK 1 ?_;try simp only [pS]
   refine tK 2 ?_;try simp only [pS]
   refine tK 4 ?_;try simp only [pS]
   refine tK 5 ?_;try simp only [pS]
   refine tC 3 fun K hK => ?_;go_simp;go_at_call 21
   refine (client_new_yes _ 2 (by decide)).mono ?_;rintro e w2 ⟨rfl, rfl⟩;have h2 := guest_add (HZ.out.step (Touch.drew (Touch.refl _ wr))) 2;clear hHeld;refine hK.out _ _ trivial (fun hHeld => ?_);clear hK K;try simp only [pS]
   have HZ2 := lh h2;clear hb h2;generalize wr.drew.heap.size = c at HZ2 ⊢;generalize wr.drew.alloc (.cells ((gNew 2).cells (.slice none 0 0)) 119) = w2 at HZ2 ⊢;refine tK 6 ?_;try simp only [pS]
   have hb2 := HZ2.out.blk;have hc2 := cell_of hb2 3;have hf2 := frozen_of hb2 3;refine tC 7 fun K hK => ?_;go_simp;have hb3 := setCell_heap hb2 3 (.pointer (some ⟨c, 0, none⟩));have HZ3 := lh (HZ2.out.turn ((Touch.refl (fun k => k = gw) w2).setCell (a := ⟨gw, 3, none⟩) (.inl rfl) _) hb3);clear hHeld;refine hK.out _ _ trivial (fun hHeld => ?_);clear hK K;try simp only [Act.put]
   clear hb2 hc2 hf2 hb3 hHeld;refine tD ?_;generalize w2.setCell ⟨gw, 3, none⟩ (.pointer (some ⟨c, 0, none⟩)) = w3 at HZ3 ⊢;go_wp2
   go_roundw
   case rel => exact .inr (.inr (.inr ⟨rfl, world_made HZ3.out⟩))
   case measure => simp [intOf]
  ·have HZ := lh hz;clear hz;go_wp2
   go_ret
   exact ⟨gw, rfl, HZ.out⟩
end Go.Proofs.YtalfbhhldfffkaaGreatDoor
