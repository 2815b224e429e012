/- House2: the walk of come of the reference's House. (And behind it: House3.) -/
import Derived.Test.YtalfbhhldfffkaaGreatDoorGHouseA
import Derived.Test.YtalfbhhldfffkaaGreatDoorGWorld
import Derived.Deep.DeepCutAuto
set_option maxHeartbeats 8000000
set_option maxRecDepth 100000
namespace Go.Proofs.YtalfbhhldfffkaaGreatDoor
open Go.RowKit
theorem house_come_r (w : World) (gh : Nat) (F : Nat -> Prop) (h : House) (p : Packet) (hh : (repHouse gh).on w F h) (hd : ∀ i : Nat, i < 3 -> (h.G i).done.length <= 1000) (hr : p.reply = true) :
 Calls Tryz.prog 67 #[.pointer (some ⟨gh, 0, none⟩), .agg p.cells] w fun e w' => e = .returned (.tuple #[]) /\ Moved (repHouse gh) w F (hCome h p) w' := by
 have M1 := lh ((Rep.stays hh).box p.cells 103);have HD := lh hd;have HR := lh hr;have hb1 := M1.out.blk;obtain ⟨F1, hF1, hm1⟩ := M1.out.fstM;have HA := lh (house_open hF1);have HM1 := lh hm1;clear hh hd hF1 hm1;by_cases hn : 0 <= p.client /\ p.client < 3
 ·have HE := lh (hCome_r (h := h) hr hn);clear hr;go_enter Tryz.func67, Tryz.ntmps67
  go_upto_region 1 with fail
  generalize w.alloc (.cells p.cells 103) = w1 at *;generalize w.heap.size = b at *;obtain hk | hk | hk : p.client = 0 \/ p.client = 1 \/ p.client = 2 := by omega
  ·have HK := lh hk;clear hn;have hc1 := (cell_of hb1 1).trans (Packet.get1 p);have hc0 := (cell_of hb1 0).trans (Packet.get0 p);rw [hk] at hc1;rw [HR.out] at hc0;obtain ⟨s, Fs, hFs, ms⟩ := HA.out.g0;have HFS := lh hFs;have HMS := lh ms;have HDN := lh (HD.out 0 (by decide));have HE' := lh (show hCome h p = { h with G := upd h.G 0 (gHear (h.G 0) p).2 } from by rw [HE.out, hk]; rfl);clear hFs ms hk;go_wp2_with fail
   refine wp_region_held_drew (S := fun w' => w'.heap[b]? = some (.cells p.cells 103 (0, 0)) /\ w'.cell? ⟨b, 1, none⟩ = some (.int .i64 0)) (by kernel_rfl) ⟨hb1, hc1⟩ (fun hHeld => ?_);refine tK 0 ?_;try simp only [pS]
   refine tK 1 ?_;try simp only [pS]
   refine tK 2 ?_ (hY := fun w' hw' => by
    obtain ⟨hh1, hh2⟩ := hw';go_simp;try with_reducible rfl)
   try simp only [pS]
   refine tK 3 ?_;try simp only [pS]
   refine tK 4 ?_;try simp only [pS]
   refine tK 5 ?_;try simp only [pS]
   refine tK 6 ?_ (hY := fun w' hw' => by
    obtain ⟨hh1, hh2⟩ := hw';go_simp;try with_reducible rfl)
   try simp only [pS]
   refine tC 7 fun K hK => ?_;go_simp;go_at_call 115
   have hxc : Ext w1 w1.drew := Touch.drew (Touch.refl _ w1);refine (guestS_hear' w1.drew Fs gh 1 s _ p (Rep.ext HFS.out hxc) HDN.out).mono ?_;rintro e w2 ⟨rfl, hq2⟩;have M2 := lh (HM1.out _ _ (HMS.out _ _ (Moved.ahead hxc hq2)));have hb2 := M2.out.blk;have hc2 := (cell_of hb2 1).trans (Packet.get1 p);rw [HK.out] at hc2;refine hK.out _ _ ⟨hb2, hc2⟩ (fun hHeld => ?_);clear hK K;try simp only [pS]
   refine tD ?_;clear hHeld hq2 hb2 hc2;go_wp2
   first
    | go_end0
    | refine bodyPost_ret (results_none rfl _ _ _) rfl ?_
    | refine bodyPost_end (results_none rfl _ _ _) rfl ?_
   rw [HE'.out];exact ⟨rfl, M2.out.left⟩
  ·have HK := lh hk;clear hn;have hc1 := (cell_of hb1 1).trans (Packet.get1 p);have hc0 := (cell_of hb1 0).trans (Packet.get0 p);rw [hk] at hc1;rw [HR.out] at hc0;obtain ⟨s, Fs, hFs, ms⟩ := HA.out.g1;have HFS := lh hFs;have HMS := lh ms;have HDN := lh (HD.out 1 (by decide));have HE' := lh (show hCome h p = { h with G := upd h.G 1 (gHear (h.G 1) p).2 } from by rw [HE.out, hk]; rfl);clear hFs ms hk;go_wp2_with fail
   refine wp_region_held_drew (S := fun w' => w'.heap[b]? = some (.cells p.cells 103 (0, 0)) /\ w'.cell? ⟨b, 1, none⟩ = some (.int .i64 1)) (by kernel_rfl) ⟨hb1, hc1⟩ (fun hHeld => ?_);refine tK 0 ?_;try simp only [pS]
   refine tK 1 ?_;try simp only [pS]
   refine tK 2 ?_ (hY := fun w' hw' => by
    obtain ⟨hh1, hh2⟩ := hw';go_simp;try with_reducible rfl)
   try simp only [pS]
   refine tK 3 ?_;try simp only [pS]
   refine tK 4 ?_;try simp only [pS]
   refine tK 5 ?_;try simp only [pS]
   refine tK 6 ?_ (hY := fun w' hw' => by
    obtain ⟨hh1, hh2⟩ := hw';go_simp;try with_reducible rfl)
   try simp only [pS]
   refine tC 7 fun K hK => ?_;go_simp;go_at_call 115
   have hxc : Ext w1 w1.drew := Touch.drew (Touch.refl _ w1);refine (guestS_hear' w1.drew Fs gh 9 s _ p (Rep.ext HFS.out hxc) HDN.out).mono ?_;rintro e w2 ⟨rfl, hq2⟩;have M2 := lh (HM1.out _ _ (HMS.out _ _ (Moved.ahead hxc hq2)));have hb2 := M2.out.blk;have hc2 := (cell_of hb2 1).trans (Packet.get1 p);rw [HK.out] at hc2;refine hK.out _ _ ⟨hb2, hc2⟩ (fun hHeld => ?_);clear hK K;try simp only [pS]
   refine tD ?_;clear hHeld hq2 hb2 hc2;go_wp2
   first
    | go_end0
    | refine bodyPost_ret (results_none rfl _ _ _) rfl ?_
    | refine bodyPost_end (results_none rfl _ _ _) rfl ?_
   rw [HE'.out];exact ⟨rfl, M2.out.left⟩
  ·have HK := lh hk;clear hn;have hc1 := (cell_of hb1 1).trans (Packet.get1 p);have hc0 := (cell_of hb1 0).trans (Packet.get0 p);rw [hk] at hc1;rw [HR.out] at hc0;obtain ⟨s, Fs, hFs, ms⟩ := HA.out.g2;have HFS := lh hFs;have HMS := lh ms;have HDN := lh (HD.out 2 (by decide));have HE' := lh (show hCome h p = { h with G := upd h.G 2 (gHear (h.G 2) p).2 } from by rw [HE.out, hk]; rfl);clear hFs ms hk;go_wp2_with fail
   refine wp_region_held_drew (S := fun w' => w'.heap[b]? = some (.cells p.cells 103 (0, 0)) /\ w'.cell? ⟨b, 1, none⟩ = some (.int .i64 2)) (by kernel_rfl) ⟨hb1, hc1⟩ (fun hHeld => ?_);refine tK 0 ?_;try simp only [pS]
   refine tK 1 ?_;try simp only [pS]
   refine tK 2 ?_ (hY := fun w' hw' => by
    obtain ⟨hh1, hh2⟩ := hw';go_simp;try with_reducible rfl)
   try simp only [pS]
   refine tK 3 ?_;try simp only [pS]
   refine tK 4 ?_;try simp only [pS]
   refine tK 5 ?_;try simp only [pS]
   refine tK 6 ?_ (hY := fun w' hw' => by
    obtain ⟨hh1, hh2⟩ := hw';go_simp;try with_reducible rfl)
   try simp only [pS]
   refine tC 7 fun K hK => ?_;go_simp;go_at_call 115
   have hxc : Ext w1 w1.drew := Touch.drew (Touch.refl _ w1);refine (guestS_hear' w1.drew Fs gh 17 s _ p (Rep.ext HFS.out hxc) HDN.out).mono ?_;rintro e w2 ⟨rfl, hq2⟩;have M2 := lh (HM1.out _ _ (HMS.out _ _ (Moved.ahead hxc hq2)));have hb2 := M2.out.blk;have hc2 := (cell_of hb2 1).trans (Packet.get1 p);rw [HK.out] at hc2;refine hK.out _ _ ⟨hb2, hc2⟩ (fun hHeld => ?_);clear hK K;try simp only [pS]
   refine tD ?_;clear hHeld hq2 hb2 hc2;go_wp2
   first
    | go_end0
    | refine bodyPost_ret (results_none rfl _ _ _) rfl ?_
    | refine bodyPost_end (results_none rfl _ _ _) rfl ?_
   rw [HE'.out];exact ⟨rfl, M2.out.left⟩
 ·have HE := lh (hCome_rn (h := h) hr hn);have hc1 := (cell_of hb1 1).trans (Packet.get1 p);have hc0 := (cell_of hb1 0).trans (Packet.get0 p);rw [hr] at hc0;clear hr;go_enter Tryz.func67, Tryz.ntmps67
  go_upto_region 1 with fail
  generalize w.alloc (.cells p.cells 103) = w1 at *;generalize w.heap.size = b at *;by_cases h0 : 0 <= p.client
  ·have h3 : ¬ p.client < 3 := fun h => hn ⟨h0, h⟩;clear hn;go_wp2
   first
    | go_end0
    | refine bodyPost_ret (results_none rfl _ _ _) rfl ?_
    | refine bodyPost_end (results_none rfl _ _ _) rfl ?_
   rw [HE.out];exact ⟨rfl, M1.out.left⟩
  ·clear hn;go_wp2
   first
    | go_end0
    | refine bodyPost_ret (results_none rfl _ _ _) rfl ?_
    | refine bodyPost_end (results_none rfl _ _ _) rfl ?_
   rw [HE.out];exact ⟨rfl, M1.out.left⟩
theorem house_come_s (w : World) (gh : Nat) (F : Nat -> Prop) (h : House) (p : Packet) (hh : (repHouse gh).on w F h) (hL : LogOk h.S) (hst : StrCall p.call) (hr : p.reply = false) :
 Calls Tryz.prog 67 #[.pointer (some ⟨gh, 0, none⟩), .agg p.cells] w fun e w' => e = .returned (.tuple #[]) /\ Moved (repHouse gh) w F (hCome h p) w' := by
 have M1 := lh ((Rep.stays hh).box p.cells 103);have hb1 := M1.out.blk;have hc0 := (cell_of hb1 0).trans (Packet.get0 p);rw [hr] at hc0;have HL := lh hL;have HST := lh hst;clear hh hL hst;go_enter Tryz.func67, Tryz.ntmps67
 go_wp2_with fail
 have hsz : (w.alloc (.cells p.cells 103)).heap.size = w.heap.size + 1 := World.size_alloc _ _;generalize w.alloc (.cells p.cells 103) = w1 at *;obtain ⟨b, hb⟩ : ∃ b, w.heap.size = b := ⟨_, rfl⟩
 rw [hb] at hb1 M1 hsz ⊢;have hlb := (aG hb1).1
 have HSS := lh (show ∀ w' : World, w'.heap[b]? = some (.cells p.cells 103 (0, 0)) -> w'.heap[b]? = some (.cells p.cells 103 (0, 0)) /\ w'.cell? ⟨b, 1, none⟩ = some (.int .i64 p.client) /\ w'.cell? ⟨b, 2, none⟩ = some (.int .i64 p.no) from
  fun w' h2 => ⟨h2, (cell_of h2 1).trans (Packet.get1 p), (cell_of h2 2).trans (Packet.get2 p)⟩)
 clear hc0;refine wp_region_held_drew (S := fun w' => w'.heap[b]? = some (.cells p.cells 103 (0, 0)) /\ w'.cell? ⟨b, 1, none⟩ = some (.int .i64 p.client) /\ w'.cell? ⟨b, 2, none⟩ = some (.int .i64 p.no)) (by kernel_rfl) (HSS.out _ hb1) (fun hHeld => ?_);refine tK 0 ?_;try simp only [pS]
 refine tK 1 ?_;try simp only [pS]
 refine tK 2 ?_;try simp only [pS]
 refine tK 3 ?_;try simp only [pS]
 refine tK 4 ?_ (hY := fun w' hw' => by
  obtain ⟨hh1, hh2, hh3⟩ := hw';go_simp;try with_reducible rfl)
 try simp only [pS]
 refine tK 5 ?_;try simp only [pS]
 refine tK 6 ?_ (hY := fun w' hw' => by
  obtain ⟨hh1, hh2, hh3⟩ := hw';go_simp;try with_reducible rfl)
 try simp only [pS]
 refine tK 7 ?_;try simp only [pS]
 refine tK 8 ?_ (hY := fun w' hw' => by
  obtain ⟨hh1, hh2, hh3⟩ := hw';go_simp;try with_reducible rfl)
 try simp only [pS]
 refine wpAnyH_ready (rs := [9, 14]) (by kernel_rfl) (by simp) ?_;refine AllReadyH.cons (gT rfl) (fun K hK => ?_) (AllReadyH.cons (gT rfl) (fun K hK => ?_) AllReadyH.nil)
 ·skip
  go_simp;go_at_call 116
  have hxc : Ext w1 w1.drew := Touch.drew (Touch.refl _ w1);obtain ⟨F1, hF1, hm1⟩ := M1.out.fstM;obtain ⟨s, Fs, hFs, ms⟩ := (house_open hF1).chest;refine (chestS_call w1.drew gh 0 s Fs h.S p.client p.no p.call (Rep.ext hFs hxc) HL.out HST.out).mono ?_;rintro e w2 ⟨rfl, hq2⟩;have M2 := lh (hm1 _ _ (ms _ _ (Moved.ahead hxc hq2)));have hb2 := M2.out.blk;have hlb2 := (aG hb2).1;clear hF1 hm1 hFs ms hq2;refine hK.out _ _ (HSS.out _ hb2) (fun hHeld => ?_);clear hK K;try simp only [pS]
  refine tK 10 ?_;try simp only [pS]
  refine tK 11 ?_;try simp only [pS]
  refine tK 12 ?_;try simp only [pS]
  refine tK 13 ?_;try simp only [pS]
  refine tC 14 fun K hK => ?_;go_simp;refine hK.out _ _ (HSS.out _ ((Below.heap_alloc _ _ _ hlb2).trans hb2)) (fun hHeld => ?_);clear hK K;try simp only [pS]
  refine tC 15 fun K hK => ?_;go_simp;refine hK.out _ _ (HSS.out _ ((Below.heap_alloc _ _ _ hlb2).trans hb2)) (fun hHeld => ?_);clear hK K;try simp only [pS]
  refine tK 16 ?_;try simp only [pS]
  refine tK 17 ?_;try simp only [pS]
  refine tD ?_;have M4 := lh (M2.out.box (chestCall h.S p.client p.no p.call).1.1.cells 101);clear hHeld M2 hb2 hlb2 hlb hsz hb1;generalize w2.alloc (.cells (chestCall h.S p.client p.no p.call).1.1.cells 101) = w4 at M4 ⊢;generalize w2.heap.size = bz at M4 ⊢;generalize hcr : chestCall h.S p.client p.no p.call = cr at *;obtain ⟨⟨a, n, code⟩, S'⟩ := cr;try dsimp only at *
  by_cases h0 : code = 0
  ·subst h0;have he := hCome_s (h := h) hr (by rw [hcr]);rw [hcr] at he;obtain ⟨q, hq⟩ : ∃ q, hReply p a = q := ⟨_, rfl⟩
   rw [hq] at he;have HE := lh he;have HQ := lh hq;clear hcr he hq;obtain ⟨F5, hF5, hm5⟩ := M4.out.ff3;obtain ⟨s2, F2, hF2, hm2⟩ := (house_open hF5).bag;have HF2 := lh hF2;have HM2 := lh hm2;have HM5 := lh hm5;have hb4 := M4.out.left.blk;have hz4 := M4.out.blk
   have HSR := lh (show ∀ w' : World, w'.heap[b]? = some (.cells p.cells 103 (0, 0)) -> w'.heap[bz]? = some (.cells a.cells 101 (0, 0)) -> w'.heap[b]? = some (.cells p.cells 103 (0, 0)) /\ w'.heap[bz]? = some (.cells a.cells 101 (0, 0)) /\ w'.cell? ⟨b, 1, none⟩ = some (.int .i64 p.client) /\ w'.cell? ⟨b, 2, none⟩ = some (.int .i64 p.no) from
    fun w' h1 h2 => ⟨h1, h2, (cell_of h1 1).trans (Packet.get1 p), (cell_of h1 2).trans (Packet.get2 p)⟩)
   clear hF2 hm2 hm5 hF5;go_wp2_with fail
   refine wp_region_held_drew (S := fun w' => w'.heap[b]? = some (.cells p.cells 103 (0, 0)) /\ w'.heap[bz]? = some (.cells a.cells 101 (0, 0)) /\ w'.cell? ⟨b, 1, none⟩ = some (.int .i64 p.client) /\ w'.cell? ⟨b, 2, none⟩ = some (.int .i64 p.no)) (by kernel_rfl) (HSR.out _ hb4 hz4) (fun hHeld => ?_);refine tK 0 ?_;try simp only [pS]
   refine tK 1 ?_;try simp only [pS]
   refine tK 2 ?_;try simp only [pS]
   refine tK 3 ?_;try simp only [pS]
   refine tK 4 ?_ (hY := fun w' hw' => by
    obtain ⟨hh1, hh2, hh3, hh4⟩ := hw';go_simp;try with_reducible rfl)
   try simp only [pS]
   refine tK 5 ?_;try simp only [pS]
   refine tK 6 ?_ (hY := fun w' hw' => by
    obtain ⟨hh1, hh2, hh3, hh4⟩ := hw';go_simp;try with_reducible rfl)
   try simp only [pS]
   refine tK 7 ?_;try simp only [pS]
   refine tK 8 ?_ (hY := fun w' hw' => by
    obtain ⟨hh1, hh2, hh3, hh4⟩ := hw';go_simp;try with_reducible rfl)
   try simp only [pS]
   refine tK 9 ?_ (hY := fun w' hw' => by
    obtain ⟨hh1, hh2, hh3, hh4⟩ := hw';go_simp;try with_reducible rfl)
   try simp only [pS]
   refine tK 10 ?_;try simp only [pS]
   refine tC 11 fun K hK => ?_;go_simp;go_at_call 69
   have hx5 : Ext w4 w4.drew := Touch.drew (Touch.refl _ w4);rw [show ({ reply := true, client := p.client, no := p.no, call := p.call, answer := a } : Packet) = q from HQ.out];refine (bagS_send' w4.drew F2 gh 25 s2 h.bag q (Rep.ext HF2.out hx5)).mono ?_;rintro e w6 ⟨rfl, hq6⟩;have M6 := lh (HM5.out _ _ (HM2.out _ _ (Moved.ahead hx5 hq6)));refine hK.out _ _ (HSR.out _ M6.out.left.blk M6.out.blk) (fun hHeld => ?_);clear hK K;try simp only [pS]
   refine tD ?_;clear hq6 hHeld hb4 hz4;go_wp2
   first
    | go_end0
    | refine bodyPost_ret (results_none rfl _ _ _) rfl ?_
    | refine bodyPost_end (results_none rfl _ _ _) rfl ?_
   rw [HE.out];exact ⟨rfl, M6.out.left.left⟩
  ·have h0' : (code == 0) = false := by simp [h0]
   have he := hCome_sn (h := h) hr (by rw [hcr]; exact h0);rw [hcr] at he;have HE := lh he;clear hcr he;go_wp2
   first
    | go_end0
    | refine bodyPost_ret (results_none rfl _ _ _) rfl ?_
    | refine bodyPost_end (results_none rfl _ _ _) rfl ?_
   rw [HE.out];exact ⟨rfl, M4.out.left.left⟩
 ·skip
  go_simp;have Ma := (M1.out.box (Answer.cells ⟨0, ⟨#[]⟩⟩) 101).behind (Touch.drew (Touch.refl _ _));rw [hsz] at Ma;refine hK.out _ _ (HSS.out _ Ma.left.blk) (fun hHeld => ?_);clear hK K;try simp only [pS]
  generalize (w1.alloc (.cells (Answer.cells ⟨0, ⟨#[]⟩⟩) 101)).drew = wa at Ma ⊢;obtain ⟨bz, hbz⟩ : ∃ bz, b + 1 = bz := ⟨_, rfl⟩
  rw [hbz] at Ma ⊢;have MA := lh Ma;clear Ma;refine tC 9 fun K hK => ?_;go_simp;go_at_call 116
  obtain ⟨F1, hF1, hm1⟩ := MA.out.ff3;obtain ⟨s, Fs, hFs, ms⟩ := (house_open hF1).chest;refine (chestS_call wa gh 0 s Fs h.S p.client p.no p.call hFs HL.out HST.out).mono ?_;rintro e w2 ⟨rfl, hq2⟩;have M2 := lh (hm1 _ _ (ms _ _ hq2));clear hF1 hm1 hFs ms hq2;have hz2 := M2.out.blk;refine hK.out _ _ (HSS.out _ M2.out.left.blk) (fun hHeld => ?_);clear hK K;try simp only [pS]
  refine tK 10 ?_;try simp only [pS]
  refine tK 11 ?_;try simp only [pS]
  refine tK 12 ?_;try simp only [pS]
  refine tK 13 ?_;try simp only [pS]
  refine tC 15 fun K hK => ?_;go_simp;have M4 := lh (M2.out.turnB (w' := w2.setRow bz (chestCall h.S p.client p.no p.call).1.1.cells) ((Touch.refl (fun k => k = bz) w2).setRow (.inl rfl) _) (setRow_heap _ _ _ _ _ _ hz2));refine hK.out _ _ (HSS.out _ M4.out.left.blk) (fun hHeld => ?_);clear hK K;try simp only [pS]
  refine tK 16 ?_;try simp only [pS]
  refine tK 17 ?_;try simp only [pS]
  refine tD ?_;clear hHeld hz2 M2 MA hlb hsz hb1;generalize w2.setRow bz (chestCall h.S p.client p.no p.call).1.1.cells = w4 at M4 ⊢;generalize hcr : chestCall h.S p.client p.no p.call = cr at *;obtain ⟨⟨a, n, code⟩, S'⟩ := cr;try dsimp only at *
  by_cases h0 : code = 0
  ·subst h0;have he := hCome_s (h := h) hr (by rw [hcr]);rw [hcr] at he;obtain ⟨q, hq⟩ : ∃ q, hReply p a = q := ⟨_, rfl⟩
   rw [hq] at he;have HE := lh he;have HQ := lh hq;clear hcr he hq;obtain ⟨F5, hF5, hm5⟩ := M4.out.ff3;obtain ⟨s2, F2, hF2, hm2⟩ := (house_open hF5).bag;have HF2 := lh hF2;have HM2 := lh hm2;have HM5 := lh hm5;have hb4 := M4.out.left.blk;have hz4 := M4.out.blk
   have HSR := lh (show ∀ w' : World, w'.heap[b]? = some (.cells p.cells 103 (0, 0)) -> w'.heap[bz]? = some (.cells a.cells 101 (0, 0)) -> w'.heap[b]? = some (.cells p.cells 103 (0, 0)) /\ w'.heap[bz]? = some (.cells a.cells 101 (0, 0)) /\ w'.cell? ⟨b, 1, none⟩ = some (.int .i64 p.client) /\ w'.cell? ⟨b, 2, none⟩ = some (.int .i64 p.no) from
    fun w' h1 h2 => ⟨h1, h2, (cell_of h1 1).trans (Packet.get1 p), (cell_of h1 2).trans (Packet.get2 p)⟩)
   clear hF2 hm2 hm5 hF5;go_wp2_with fail
   refine wp_region_held_drew (S := fun w' => w'.heap[b]? = some (.cells p.cells 103 (0, 0)) /\ w'.heap[bz]? = some (.cells a.cells 101 (0, 0)) /\ w'.cell? ⟨b, 1, none⟩ = some (.int .i64 p.client) /\ w'.cell? ⟨b, 2, none⟩ = some (.int .i64 p.no)) (by kernel_rfl) (HSR.out _ hb4 hz4) (fun hHeld => ?_);refine tK 0 ?_;try simp only [pS]
   refine tK 1 ?_;try simp only [pS]
   refine tK 2 ?_;try simp only [pS]
   refine tK 3 ?_;try simp only [pS]
   refine tK 4 ?_ (hY := fun w' hw' => by
    obtain ⟨hh1, hh2, hh3, hh4⟩ := hw';go_simp;try with_reducible rfl)
   try simp only [pS]
   refine tK 5 ?_;try simp only [pS]
   refine tK 6 ?_ (hY := fun w' hw' => by
    obtain ⟨hh1, hh2, hh3, hh4⟩ := hw';go_simp;try with_reducible rfl)
   try simp only [pS]
   refine tK 7 ?_;try simp only [pS]
   refine tK 8 ?_ (hY := fun w' hw' => by
    obtain ⟨hh1, hh2, hh3, hh4⟩ := hw';go_simp;try with_reducible rfl)
   try simp only [pS]
   refine tK 9 ?_ (hY := fun w' hw' => by
    obtain ⟨hh1, hh2, hh3, hh4⟩ := hw';go_simp;try with_reducible rfl)
   try simp only [pS]
   refine tK 10 ?_;try simp only [pS]
   refine tC 11 fun K hK => ?_;go_simp;go_at_call 69
   have hx5 : Ext w4 w4.drew := Touch.drew (Touch.refl _ w4);rw [show ({ reply := true, client := p.client, no := p.no, call := p.call, answer := a } : Packet) = q from HQ.out];refine (bagS_send' w4.drew F2 gh 25 s2 h.bag q (Rep.ext HF2.out hx5)).mono ?_;rintro e w6 ⟨rfl, hq6⟩;have M6 := lh (HM5.out _ _ (HM2.out _ _ (Moved.ahead hx5 hq6)));refine hK.out _ _ (HSR.out _ M6.out.left.blk M6.out.blk) (fun hHeld => ?_);clear hK K;try simp only [pS]
   refine tD ?_;clear hq6 hHeld hb4 hz4;go_wp2
   first
    | go_end0
    | refine bodyPost_ret (results_none rfl _ _ _) rfl ?_
    | refine bodyPost_end (results_none rfl _ _ _) rfl ?_
   rw [HE.out];exact ⟨rfl, M6.out.left.left⟩
  ·have h0' : (code == 0) = false := by simp [h0]
   have he := hCome_sn (h := h) hr (by rw [hcr]; exact h0);rw [hcr] at he;have HE := lh he;clear hcr he;go_wp2
   first
    | go_end0
    | refine bodyPost_ret (results_none rfl _ _ _) rfl ?_
    | refine bodyPost_end (results_none rfl _ _ _) rfl ?_
   rw [HE.out];exact ⟨rfl, M4.out.left.left⟩
theorem house_come (w : World) (gh : Nat) (F : Nat -> Prop) (h : House) (p : Packet) (hh : (repHouse gh).on w F h) (hL : LogOk h.S) (hd : ∀ i : Nat, i < 3 -> (h.G i).done.length <= 1000) (hst : StrCall p.call) :
 Calls Tryz.prog 67 #[.pointer (some ⟨gh, 0, none⟩), .agg p.cells] w fun e w' => e = .returned (.tuple #[]) /\ Moved (repHouse gh) w F (hCome h p) w' := by
 by_cases hr : p.reply = true
 ·exact house_come_r w gh F h p hh hd hr
 ·exact house_come_s w gh F h p hh hL hst (by simpa using hr)
def HStepPost (w : World) (gh : Nat) (F : Nat -> Prop) (r : Int × House) (e : Ending) (w' : World) : Prop := e = .returned (.int .i64 r.1) /\ Moved (repHouse gh) w F r.2 w'
theorem house_step1 (w : World) (gh : Nat) (F : Nat -> Prop) (h : House) (x : Step) (hh : (repHouse gh).on w F h) (hf : Fits h) (hx : StrWStep x) (k1 : x.kind = 1) :
 Calls Tryz.prog 65 #[.pointer (some ⟨gh, 0, none⟩), .agg x.cells] w (HStepPost w gh F (hStep h x)) := by
 have HF := lh hf;have HX := lh hx;have HK1 := lh k1;clear hf hx;have M1 := lh ((Rep.stays hh).box x.cells 85);have hb1 := M1.out.blk;have hck := (cell_of hb1 0).trans (Step.get0 x);have hcn := (cell_of hb1 1).trans (Step.get1 x);have hsz : (w.alloc (.cells x.cells 85)).heap.size = w.heap.size + 1 := World.size_alloc _ _;clear hh;by_cases hn : 0 <= x.n /\ x.n < 3
 ·clear k1;go_enter Tryz.func65, Tryz.ntmps65
  go_upto_region 1 with fail
  generalize w.alloc (.cells x.cells 85) = w1 at *;obtain ⟨b, hb⟩ : ∃ b, w.heap.size = b := ⟨_, rfl⟩
  rw [hb] at hb1 hcn hck M1 hsz ⊢;obtain hk | hk | hk : x.n = 0 \/ x.n = 1 \/ x.n = 2 := by omega
  ·have HKN := lh hk;obtain ⟨F1, hF1, hm1⟩ := M1.out.fstM;obtain ⟨s, Fs, hFs, ms⟩ := (house_open hF1).g0;have HFS := lh hFs;have HMS := lh ms;have HM1 := lh hm1;have HE := lh (show hStep h x = ((gAsk (h.G 0) x.call).1, { h with G := upd h.G 0 (gAsk (h.G 0) x.call).2 }) from by rw [hStep_1 HK1.out, hCall_y (by omega), hk]; rfl);have HN := lh (HF.out.no 0 (by decide));rw [hk] at hcn;rw [HK1.out] at hck;clear hF1 hm1 hFs ms hk;go_wp2_with fail
   refine wp_region_held_drew (S := fun w' => w'.heap[b]? = some (.cells x.cells 85 (0, 0)) /\ w'.cell? ⟨b, 1, none⟩ = some (.int .i64 0)) (by kernel_rfl) ⟨hb1, hcn⟩ (fun hHeld => ?_);refine tK 0 ?_;try simp only [pS]
   refine tK 1 ?_;try simp only [pS]
   refine tK 2 ?_ (hY := fun w' hw' => by
    obtain ⟨hh1, hh2⟩ := hw';go_simp;try with_reducible rfl)
   try simp only [pS]
   refine tK 3 ?_;try simp only [pS]
   refine tK 4 ?_;try simp only [pS]
   refine tK 5 ?_;try simp only [pS]
   refine tK 6 ?_;try simp only [pS]
   refine tK 7 ?_ (hY := fun w' hw' => by
    obtain ⟨hh1, hh2⟩ := hw';go_simp;try with_reducible rfl)
   try simp only [pS]
   refine tC 8 fun K hK => ?_;go_simp;go_at_call 111
   have hxc : Ext w1 w1.drew := Touch.drew (Touch.refl _ w1);refine (guestS_ask' w1.drew Fs gh 1 s _ x.call (Rep.ext HFS.out hxc) HN.out HX.out.call.h1 HX.out.call.h2 HX.out.call.h3).mono ?_;rintro e w2 ⟨rfl, hq2⟩;have M2 := lh (HM1.out _ _ (HMS.out _ _ (Moved.ahead hxc hq2)));have hb2 := M2.out.blk;have hc2 := (cell_of hb2 1).trans (Step.get1 x);rw [HKN.out] at hc2;refine hK.out _ _ ⟨hb2, hc2⟩ (fun hHeld => ?_);clear hK K;try simp only [pS]
   refine tK 9 ?_;try simp only [pS]
   refine tD ?_;clear hHeld hq2 hb2 hc2;go_wp2
   go_ret
   unfold HStepPost;rw [HE.out];exact ⟨rfl, M2.out.left⟩
  ·have HKN := lh hk;obtain ⟨F1, hF1, hm1⟩ := M1.out.fstM;obtain ⟨s, Fs, hFs, ms⟩ := (house_open hF1).g1;have HFS := lh hFs;have HMS := lh ms;have HM1 := lh hm1;have HE := lh (show hStep h x = ((gAsk (h.G 1) x.call).1, { h with G := upd h.G 1 (gAsk (h.G 1) x.call).2 }) from by rw [hStep_1 HK1.out, hCall_y (by omega), hk]; rfl);have HN := lh (HF.out.no 1 (by decide));rw [hk] at hcn;rw [HK1.out] at hck;clear hF1 hm1 hFs ms hk;go_wp2_with fail
   refine wp_region_held_drew (S := fun w' => w'.heap[b]? = some (.cells x.cells 85 (0, 0)) /\ w'.cell? ⟨b, 1, none⟩ = some (.int .i64 1)) (by kernel_rfl) ⟨hb1, hcn⟩ (fun hHeld => ?_);refine tK 0 ?_;try simp only [pS]
   refine tK 1 ?_;try simp only [pS]
   refine tK 2 ?_ (hY := fun w' hw' => by
    obtain ⟨hh1, hh2⟩ := hw';go_simp;try with_reducible rfl)
   try simp only [pS]
   refine tK 3 ?_;try simp only [pS]
   refine tK 4 ?_;try simp only [pS]
   refine tK 5 ?_;try simp only [pS]
   refine tK 6 ?_;try simp only [pS]
   refine tK 7 ?_ (hY := fun w' hw' => by
    obtain ⟨hh1, hh2⟩ := hw';go_simp;try with_reducible rfl)
   try simp only [pS]
   refine tC 8 fun K hK => ?_;go_simp;go_at_call 111
   have hxc : Ext w1 w1.drew := Touch.drew (Touch.refl _ w1);refine (guestS_ask' w1.drew Fs gh 9 s _ x.call (Rep.ext HFS.out hxc) HN.out HX.out.call.h1 HX.out.call.h2 HX.out.call.h3).mono ?_;rintro e w2 ⟨rfl, hq2⟩;have M2 := lh (HM1.out _ _ (HMS.out _ _ (Moved.ahead hxc hq2)));have hb2 := M2.out.blk;have hc2 := (cell_of hb2 1).trans (Step.get1 x);rw [HKN.out] at hc2;refine hK.out _ _ ⟨hb2, hc2⟩ (fun hHeld => ?_);clear hK K;try simp only [pS]
   refine tK 9 ?_;try simp only [pS]
   refine tD ?_;clear hHeld hq2 hb2 hc2;go_wp2
   go_ret
   unfold HStepPost;rw [HE.out];exact ⟨rfl, M2.out.left⟩
  ·have HKN := lh hk;obtain ⟨F1, hF1, hm1⟩ := M1.out.fstM;obtain ⟨s, Fs, hFs, ms⟩ := (house_open hF1).g2;have HFS := lh hFs;have HMS := lh ms;have HM1 := lh hm1;have HE := lh (show hStep h x = ((gAsk (h.G 2) x.call).1, { h with G := upd h.G 2 (gAsk (h.G 2) x.call).2 }) from by rw [hStep_1 HK1.out, hCall_y (by omega), hk]; rfl);have HN := lh (HF.out.no 2 (by decide));rw [hk] at hcn;rw [HK1.out] at hck;clear hF1 hm1 hFs ms hk;go_wp2_with fail
   refine wp_region_held_drew (S := fun w' => w'.heap[b]? = some (.cells x.cells 85 (0, 0)) /\ w'.cell? ⟨b, 1, none⟩ = some (.int .i64 2)) (by kernel_rfl) ⟨hb1, hcn⟩ (fun hHeld => ?_);refine tK 0 ?_;try simp only [pS]
   refine tK 1 ?_;try simp only [pS]
   refine tK 2 ?_ (hY := fun w' hw' => by
    obtain ⟨hh1, hh2⟩ := hw';go_simp;try with_reducible rfl)
   try simp only [pS]
   refine tK 3 ?_;try simp only [pS]
   refine tK 4 ?_;try simp only [pS]
   refine tK 5 ?_;try simp only [pS]
   refine tK 6 ?_;try simp only [pS]
   refine tK 7 ?_ (hY := fun w' hw' => by
    obtain ⟨hh1, hh2⟩ := hw';go_simp;try with_reducible rfl)
   try simp only [pS]
   refine tC 8 fun K hK => ?_;go_simp;go_at_call 111
   have hxc : Ext w1 w1.drew := Touch.drew (Touch.refl _ w1);refine (guestS_ask' w1.drew Fs gh 17 s _ x.call (Rep.ext HFS.out hxc) HN.out HX.out.call.h1 HX.out.call.h2 HX.out.call.h3).mono ?_;rintro e w2 ⟨rfl, hq2⟩;have M2 := lh (HM1.out _ _ (HMS.out _ _ (Moved.ahead hxc hq2)));have hb2 := M2.out.blk;have hc2 := (cell_of hb2 1).trans (Step.get1 x);rw [HKN.out] at hc2;refine hK.out _ _ ⟨hb2, hc2⟩ (fun hHeld => ?_);clear hK K;try simp only [pS]
   refine tK 9 ?_;try simp only [pS]
   refine tD ?_;clear hHeld hq2 hb2 hc2;go_wp2
   go_ret
   unfold HStepPost;rw [HE.out];exact ⟨rfl, M2.out.left⟩
 ·have HE := lh ((hStep_1 (h := h) k1).trans (hCall_9 hn));rw [k1] at hck;clear k1;go_enter Tryz.func65, Tryz.ntmps65
  go_upto_region 1 with fail
  generalize w.alloc (.cells x.cells 85) = w1 at *;obtain ⟨b, hb⟩ : ∃ b, w.heap.size = b := ⟨_, rfl⟩
  rw [hb] at hb1 hcn hck M1 hsz ⊢;by_cases h0 : x.n < 0
  ·clear hn;go_wp2
   go_ret
   unfold HStepPost;rw [HE.out];exact ⟨rfl, M1.out.left⟩
  ·have h3 : 3 <= x.n := by omega
   clear hn;go_wp2
   go_ret
   unfold HStepPost;rw [HE.out];exact ⟨rfl, M1.out.left⟩
theorem house_step2 (w : World) (gh : Nat) (F : Nat -> Prop) (h : House) (x : Step) (hh : (repHouse gh).on w F h) (hf : Fits h) (k2 : x.kind = 2) :
 Calls Tryz.prog 65 #[.pointer (some ⟨gh, 0, none⟩), .agg x.cells] w (HStepPost w gh F (hStep h x)) := by
 have HF := lh hf;have HK2 := lh k2;clear hf;have M1 := lh ((Rep.stays hh).box x.cells 85);have hb1 := M1.out.blk;have hck := (cell_of hb1 0).trans (Step.get0 x);have hcn := (cell_of hb1 1).trans (Step.get1 x);have hsz : (w.alloc (.cells x.cells 85)).heap.size = w.heap.size + 1 := World.size_alloc _ _;clear hh;by_cases hn : 0 <= x.n /\ x.n < 3
 ·clear k2;go_enter Tryz.func65, Tryz.ntmps65
  go_upto_region 1 with fail
  generalize w.alloc (.cells x.cells 85) = w1 at *;obtain ⟨b, hb⟩ : ∃ b, w.heap.size = b := ⟨_, rfl⟩
  rw [hb] at hb1 hcn hck M1 hsz ⊢;obtain hk | hk | hk : x.n = 0 \/ x.n = 1 \/ x.n = 2 := by omega
  ·have HKN := lh hk;clear hn;obtain ⟨F1, hF1, hm1⟩ := M1.out.fstM;obtain ⟨s, Fs, hFs, ms⟩ := (house_open hF1).g0;have HFS := lh hFs;rw [hk] at hcn;rw [HK2.out] at hck;clear hF1 hm1 hFs ms hk;go_wp2_with fail
   refine wp_region_held_drew (S := fun w' => w'.heap[b]? = some (.cells x.cells 85 (0, 0)) /\ w'.cell? ⟨b, 1, none⟩ = some (.int .i64 0)) (by kernel_rfl) ⟨hb1, hcn⟩ (fun hHeld => ?_);refine tK 0 ?_;try simp only [pS]
   refine tK 1 ?_;try simp only [pS]
   refine tK 2 ?_ (hY := fun w' hw' => by
    obtain ⟨hh1, hh2⟩ := hw';go_simp;try with_reducible rfl)
   try simp only [pS]
   refine tK 3 ?_;try simp only [pS]
   refine tK 4 ?_;try simp only [pS]
   refine tK 5 ?_;try simp only [pS]
   refine wpAnyH_ready (rs := [6, 10]) (by kernel_rfl) (by simp) ?_;refine AllReadyH.cons (gT rfl) (fun K hK => ?_) (AllReadyH.cons (gT rfl) (fun K hK => ?_) AllReadyH.nil)
   ·skip
    go_simp;go_at_call 68
    have hxc : Ext w1 w1.drew := Touch.drew (Touch.refl _ w1);refine (guestS_send' w1.drew Fs gh 1 s _ (Rep.ext HFS.out hxc)).mono ?_;rintro e w2 ⟨rfl, hx2⟩;have M2 := lh (M1.out.behind (hxc.trans hx2));have hb2 := M2.out.blk;have hc2 := (cell_of hb2 1).trans (Step.get1 x);rw [HKN.out] at hc2;have hlb2 := (aG hb2).1;have hb3 : ∀ o, (w2.alloc o).heap[b]? = some (.cells x.cells 85 (0, 0)) := fun o => (Below.heap_alloc _ _ _ hlb2).trans hb2
    have hc3 : ∀ o, (w2.alloc o).cell? ⟨b, 1, none⟩ = some (.int .i64 0) := fun o => by
     have := (cell_of (hb3 o) 1).trans (Step.get1 x);rwa [HKN.out] at this
    clear hx2;refine hK.out _ _ ⟨hb2, hc2⟩ (fun hHeld => ?_);clear hK K;try simp only [pS]
    refine tK 7 ?_;try simp only [pS]
    refine tK 8 ?_;try simp only [pS]
    refine tK 9 ?_;try simp only [pS]
    refine tC 10 fun K hK => ?_;go_simp;refine hK.out _ _ ⟨hb3 _, hc3 _⟩ (fun hHeld => ?_);clear hK K;try simp only [pS]
    refine tC 11 fun K hK => ?_;go_simp;refine hK.out _ _ ⟨hb3 _, hc3 _⟩ (fun hHeld => ?_);clear hK K;try simp only [pS]
    refine tK 12 ?_;try simp only [pS]
    refine tD ?_;have M4 := lh (M2.out.box (gSend (h.G 0)).1.cells 103);clear hHeld M2 hb2 hlb2 hsz hb1 hb3 hc3 hc2 hcn hck HFS;generalize w2.alloc (.cells (gSend (h.G 0)).1.cells 103) = w4 at M4 ⊢;generalize w2.heap.size = bz at M4 ⊢;obtain ⟨ok, hok⟩ : ∃ ok, (gSend (h.G 0)).2 = ok := ⟨_, rfl⟩
    obtain ⟨p, hp⟩ : ∃ p, (gSend (h.G 0)).1 = p := ⟨_, rfl⟩
    rw [hp] at M4;rw [hok];cases ok with
    | false =>
      have HE := lh (show hStep h x = (6, h) from by rw [hStep_2 HK2.out]; exact hSend_6 (by rw [HKN.out]; decide) (by rw [HKN.out]; exact hok));clear hok hp;go_wp2
      go_ret
      unfold HStepPost;rw [HE.out];exact ⟨rfl, M4.out.left.left⟩
    | true =>
      have HE := lh (show hStep h x = (if (pSend h.bag p).1 = true then 0 else 7, { h with bag := (pSend h.bag p).2 }) from by rw [hStep_2 HK2.out]; exact hSend_p (by rw [HKN.out]; decide) (by rw [HKN.out]; exact hok) (by rw [HKN.out]; exact hp));clear hok hp;obtain ⟨F5, hF5, hm5⟩ := M4.out.ff3;obtain ⟨s2, F2, hF2, hm2⟩ := (house_open hF5).bag;have HF2 := lh hF2;have HM2 := lh hm2;have HM5 := lh hm5;have hz4 := M4.out.blk;clear hF2 hm2 hm5 hF5;go_wp2_with fail
      cases hq : (pSend h.bag p).1
      all_goals
       have HQ := lh hq;rw [hq] at HE;clear hq;refine wp_region_held_drew (S := fun w' => w'.heap[bz]? = some (.cells p.cells 103 (0, 0))) (by kernel_rfl) hz4 (fun hHeld => ?_);refine tK 0 ?_;try simp only [pS]
       refine tK 1 ?_;try simp only [pS]
       refine tK 2 ?_;try simp only [pS]
       refine tK 3 ?_;try simp only [pS]
       refine tC 4 fun K hK => ?_;go_simp;go_at_call 69
       have hx5 : Ext w4 w4.drew := Touch.drew (Touch.refl _ w4);refine (bagS_send' w4.drew F2 gh 25 s2 h.bag p (Rep.ext HF2.out hx5)).mono ?_;rintro e w6 ⟨rfl, hq6⟩;have M6 := lh (HM5.out _ _ (HM2.out _ _ (Moved.ahead hx5 hq6)));refine hK.out _ _ M6.out.blk (fun hHeld => ?_);clear hK K;try simp only [pS]
       rw [HQ.out];refine tK 5 ?_;try simp only [pS]
       refine tD ?_;clear hq6 hHeld hz4;go_wp2
       go_ret
       unfold HStepPost;rw [HE.out];exact ⟨rfl, M6.out.left.left⟩
   ·skip
    go_simp;have Ma := (M1.out.box (Packet.zero).cells 103).behind (Touch.drew (Touch.refl _ _));have hxa : Ext w1 ((w1.alloc (.cells (Packet.zero).cells 103)).drew) := ((Touch.refl _ w1).alloc _).drew;rw [hsz] at Ma;have hba := Ma.left.blk;have hca := (cell_of hba 1).trans (Step.get1 x);rw [HKN.out] at hca;refine hK.out _ _ ⟨hba, hca⟩ (fun hHeld => ?_);clear hK K;try simp only [pS]
    generalize (w1.alloc (.cells (Packet.zero).cells 103)).drew = wa at Ma hxa hba hca hHeld ⊢;obtain ⟨bz, hbz⟩ : ∃ bz, b + 1 = bz := ⟨_, rfl⟩
    rw [hbz] at Ma ⊢;have MA := lh Ma;clear Ma;refine tC 6 fun K hK => ?_;go_simp;go_at_call 68
    refine (guestS_send' wa Fs gh 1 s _ (Rep.ext HFS.out hxa)).mono ?_;rintro e w2 ⟨rfl, hx2⟩;have M2 := lh (MA.out.behind hx2);have hz2 := M2.out.blk;have hb2 := M2.out.left.blk;have hc2 := (cell_of hb2 1).trans (Step.get1 x);rw [HKN.out] at hc2;clear hx2;refine hK.out _ _ ⟨hb2, hc2⟩ (fun hHeld => ?_);clear hK K;try simp only [pS]
    refine tK 7 ?_;try simp only [pS]
    refine tK 8 ?_;try simp only [pS]
    refine tK 9 ?_;try simp only [pS]
    refine tC 11 fun K hK => ?_;go_simp;have M4 := lh (M2.out.turnB (w' := w2.setRow bz (gSend (h.G 0)).1.cells) ((Touch.refl (fun k => k = bz) w2).setRow (.inl rfl) _) (setRow_heap _ _ _ _ _ _ hz2));have hb4 := M4.out.left.blk;have hc4 := (cell_of hb4 1).trans (Step.get1 x);rw [HKN.out] at hc4;refine hK.out _ _ ⟨hb4, hc4⟩ (fun hHeld => ?_);clear hK K;try simp only [pS]
    refine tK 12 ?_;try simp only [pS]
    refine tD ?_;clear hHeld hz2 M2 MA hsz hb1 hb2 hc2 hb4 hc4 hba hca hxa hcn hck HFS;generalize w2.setRow bz (gSend (h.G 0)).1.cells = w4 at M4 ⊢;obtain ⟨ok, hok⟩ : ∃ ok, (gSend (h.G 0)).2 = ok := ⟨_, rfl⟩
    obtain ⟨p, hp⟩ : ∃ p, (gSend (h.G 0)).1 = p := ⟨_, rfl⟩
    rw [hp] at M4;rw [hok];cases ok with
    | false =>
      have HE := lh (show hStep h x = (6, h) from by rw [hStep_2 HK2.out]; exact hSend_6 (by rw [HKN.out]; decide) (by rw [HKN.out]; exact hok));clear hok hp;go_wp2
      go_ret
      unfold HStepPost;rw [HE.out];exact ⟨rfl, M4.out.left.left⟩
    | true =>
      have HE := lh (show hStep h x = (if (pSend h.bag p).1 = true then 0 else 7, { h with bag := (pSend h.bag p).2 }) from by rw [hStep_2 HK2.out]; exact hSend_p (by rw [HKN.out]; decide) (by rw [HKN.out]; exact hok) (by rw [HKN.out]; exact hp));clear hok hp;obtain ⟨F5, hF5, hm5⟩ := M4.out.ff3;obtain ⟨s2, F2, hF2, hm2⟩ := (house_open hF5).bag;have HF2 := lh hF2;have HM2 := lh hm2;have HM5 := lh hm5;have hz4 := M4.out.blk;clear hF2 hm2 hm5 hF5;go_wp2_with fail
      cases hq : (pSend h.bag p).1
      all_goals
       have HQ := lh hq;rw [hq] at HE;clear hq;refine wp_region_held_drew (S := fun w' => w'.heap[bz]? = some (.cells p.cells 103 (0, 0))) (by kernel_rfl) hz4 (fun hHeld => ?_);refine tK 0 ?_;try simp only [pS]
       refine tK 1 ?_;try simp only [pS]
       refine tK 2 ?_;try simp only [pS]
       refine tK 3 ?_;try simp only [pS]
       refine tC 4 fun K hK => ?_;go_simp;go_at_call 69
       have hx5 : Ext w4 w4.drew := Touch.drew (Touch.refl _ w4);refine (bagS_send' w4.drew F2 gh 25 s2 h.bag p (Rep.ext HF2.out hx5)).mono ?_;rintro e w6 ⟨rfl, hq6⟩;have M6 := lh (HM5.out _ _ (HM2.out _ _ (Moved.ahead hx5 hq6)));refine hK.out _ _ M6.out.blk (fun hHeld => ?_);clear hK K;try simp only [pS]
       rw [HQ.out];refine tK 5 ?_;try simp only [pS]
       refine tD ?_;clear hq6 hHeld hz4;go_wp2
       go_ret
       unfold HStepPost;rw [HE.out];exact ⟨rfl, M6.out.left.left⟩
  ·have HKN := lh hk;clear hn;obtain ⟨F1, hF1, hm1⟩ := M1.out.fstM;obtain ⟨s, Fs, hFs, ms⟩ := (house_open hF1).g1;have HFS := lh hFs;rw [hk] at hcn;rw [HK2.out] at hck;clear hF1 hm1 hFs ms hk;go_wp2_with fail
   refine wp_region_held_drew (S := fun w' => w'.heap[b]? = some (.cells x.cells 85 (0, 0)) /\ w'.cell? ⟨b, 1, none⟩ = some (.int .i64 1)) (by kernel_rfl) ⟨hb1, hcn⟩ (fun hHeld => ?_);refine tK 0 ?_;try simp only [pS]
   refine tK 1 ?_;try simp only [pS]
   refine tK 2 ?_ (hY := fun w' hw' => by
    obtain ⟨hh1, hh2⟩ := hw';go_simp;try with_reducible rfl)
   try simp only [pS]
   refine tK 3 ?_;try simp only [pS]
   refine tK 4 ?_;try simp only [pS]
   refine tK 5 ?_;try simp only [pS]
   refine wpAnyH_ready (rs := [6, 10]) (by kernel_rfl) (by simp) ?_;refine AllReadyH.cons (gT rfl) (fun K hK => ?_) (AllReadyH.cons (gT rfl) (fun K hK => ?_) AllReadyH.nil)
   ·skip
    go_simp;go_at_call 68
    have hxc : Ext w1 w1.drew := Touch.drew (Touch.refl _ w1);refine (guestS_send' w1.drew Fs gh 9 s _ (Rep.ext HFS.out hxc)).mono ?_;rintro e w2 ⟨rfl, hx2⟩;have M2 := lh (M1.out.behind (hxc.trans hx2));have hb2 := M2.out.blk;have hc2 := (cell_of hb2 1).trans (Step.get1 x);rw [HKN.out] at hc2;have hlb2 := (aG hb2).1;have hb3 : ∀ o, (w2.alloc o).heap[b]? = some (.cells x.cells 85 (0, 0)) := fun o => (Below.heap_alloc _ _ _ hlb2).trans hb2
    have hc3 : ∀ o, (w2.alloc o).cell? ⟨b, 1, none⟩ = some (.int .i64 1) := fun o => by
     have := (cell_of (hb3 o) 1).trans (Step.get1 x);rwa [HKN.out] at this
    clear hx2;refine hK.out _ _ ⟨hb2, hc2⟩ (fun hHeld => ?_);clear hK K;try simp only [pS]
    refine tK 7 ?_;try simp only [pS]
    refine tK 8 ?_;try simp only [pS]
    refine tK 9 ?_;try simp only [pS]
    refine tC 10 fun K hK => ?_;go_simp;refine hK.out _ _ ⟨hb3 _, hc3 _⟩ (fun hHeld => ?_);clear hK K;try simp only [pS]
    refine tC 11 fun K hK => ?_;go_simp;refine hK.out _ _ ⟨hb3 _, hc3 _⟩ (fun hHeld => ?_);clear hK K;try simp only [pS]
    refine tK 12 ?_;try simp only [pS]
    refine tD ?_;have M4 := lh (M2.out.box (gSend (h.G 1)).1.cells 103);clear hHeld M2 hb2 hlb2 hsz hb1 hb3 hc3 hc2 hcn hck HFS;generalize w2.alloc (.cells (gSend (h.G 1)).1.cells 103) = w4 at M4 ⊢;generalize w2.heap.size = bz at M4 ⊢;obtain ⟨ok, hok⟩ : ∃ ok, (gSend (h.G 1)).2 = ok := ⟨_, rfl⟩
    obtain ⟨p, hp⟩ : ∃ p, (gSend (h.G 1)).1 = p := ⟨_, rfl⟩
    rw [hp] at M4;rw [hok];cases ok with
    | false =>
      have HE := lh (show hStep h x = (6, h) from by rw [hStep_2 HK2.out]; exact hSend_6 (by rw [HKN.out]; decide) (by rw [HKN.out]; exact hok));clear hok hp;go_wp2
      go_ret
      unfold HStepPost;rw [HE.out];exact ⟨rfl, M4.out.left.left⟩
    | true =>
      have HE := lh (show hStep h x = (if (pSend h.bag p).1 = true then 0 else 7, { h with bag := (pSend h.bag p).2 }) from by rw [hStep_2 HK2.out]; exact hSend_p (by rw [HKN.out]; decide) (by rw [HKN.out]; exact hok) (by rw [HKN.out]; exact hp));clear hok hp;obtain ⟨F5, hF5, hm5⟩ := M4.out.ff3;obtain ⟨s2, F2, hF2, hm2⟩ := (house_open hF5).bag;have HF2 := lh hF2;have HM2 := lh hm2;have HM5 := lh hm5;have hz4 := M4.out.blk;clear hF2 hm2 hm5 hF5;go_wp2_with fail
      cases hq : (pSend h.bag p).1
      all_goals
       have HQ := lh hq;rw [hq] at HE;clear hq;refine wp_region_held_drew (S := fun w' => w'.heap[bz]? = some (.cells p.cells 103 (0, 0))) (by kernel_rfl) hz4 (fun hHeld => ?_);refine tK 0 ?_;try simp only [pS]
       refine tK 1 ?_;try simp only [pS]
       refine tK 2 ?_;try simp only [pS]
       refine tK 3 ?_;try simp only [pS]
       refine tC 4 fun K hK => ?_;go_simp;go_at_call 69
       have hx5 : Ext w4 w4.drew := Touch.drew (Touch.refl _ w4);refine (bagS_send' w4.drew F2 gh 25 s2 h.bag p (Rep.ext HF2.out hx5)).mono ?_;rintro e w6 ⟨rfl, hq6⟩;have M6 := lh (HM5.out _ _ (HM2.out _ _ (Moved.ahead hx5 hq6)));refine hK.out _ _ M6.out.blk (fun hHeld => ?_);clear hK K;try simp only [pS]
       rw [HQ.out];refine tK 5 ?_;try simp only [pS]
       refine tD ?_;clear hq6 hHeld hz4;go_wp2
       go_ret
       unfold HStepPost;rw [HE.out];exact ⟨rfl, M6.out.left.left⟩
   ·skip
    go_simp;have Ma := (M1.out.box (Packet.zero).cells 103).behind (Touch.drew (Touch.refl _ _));have hxa : Ext w1 ((w1.alloc (.cells (Packet.zero).cells 103)).drew) := ((Touch.refl _ w1).alloc _).drew;rw [hsz] at Ma;have hba := Ma.left.blk;have hca := (cell_of hba 1).trans (Step.get1 x);rw [HKN.out] at hca;refine hK.out _ _ ⟨hba, hca⟩ (fun hHeld => ?_);clear hK K;try simp only [pS]
    generalize (w1.alloc (.cells (Packet.zero).cells 103)).drew = wa at Ma hxa hba hca hHeld ⊢;obtain ⟨bz, hbz⟩ : ∃ bz, b + 1 = bz := ⟨_, rfl⟩
    rw [hbz] at Ma ⊢;have MA := lh Ma;clear Ma;refine tC 6 fun K hK => ?_;go_simp;go_at_call 68
    refine (guestS_send' wa Fs gh 9 s _ (Rep.ext HFS.out hxa)).mono ?_;rintro e w2 ⟨rfl, hx2⟩;have M2 := lh (MA.out.behind hx2);have hz2 := M2.out.blk;have hb2 := M2.out.left.blk;have hc2 := (cell_of hb2 1).trans (Step.get1 x);rw [HKN.out] at hc2;clear hx2;refine hK.out _ _ ⟨hb2, hc2⟩ (fun hHeld => ?_);clear hK K;try simp only [pS]
    refine tK 7 ?_;try simp only [pS]
    refine tK 8 ?_;try simp only [pS]
    refine tK 9 ?_;try simp only [pS]
    refine tC 11 fun K hK => ?_;go_simp;have M4 := lh (M2.out.turnB (w' := w2.setRow bz (gSend (h.G 1)).1.cells) ((Touch.refl (fun k => k = bz) w2).setRow (.inl rfl) _) (setRow_heap _ _ _ _ _ _ hz2));have hb4 := M4.out.left.blk;have hc4 := (cell_of hb4 1).trans (Step.get1 x);rw [HKN.out] at hc4;refine hK.out _ _ ⟨hb4, hc4⟩ (fun hHeld => ?_);clear hK K;try simp only [pS]
    refine tK 12 ?_;try simp only [pS]
    refine tD ?_;clear hHeld hz2 M2 MA hsz hb1 hb2 hc2 hb4 hc4 hba hca hxa hcn hck HFS;generalize w2.setRow bz (gSend (h.G 1)).1.cells = w4 at M4 ⊢;obtain ⟨ok, hok⟩ : ∃ ok, (gSend (h.G 1)).2 = ok := ⟨_, rfl⟩
    obtain ⟨p, hp⟩ : ∃ p, (gSend (h.G 1)).1 = p := ⟨_, rfl⟩
    rw [hp] at M4;rw [hok];cases ok with
    | false =>
      have HE := lh (show hStep h x = (6, h) from by rw [hStep_2 HK2.out]; exact hSend_6 (by rw [HKN.out]; decide) (by rw [HKN.out]; exact hok));clear hok hp;go_wp2
      go_ret
      unfold HStepPost;rw [HE.out];exact ⟨rfl, M4.out.left.left⟩
    | true =>
      have HE := lh (show hStep h x = (if (pSend h.bag p).1 = true then 0 else 7, { h with bag := (pSend h.bag p).2 }) from by rw [hStep_2 HK2.out]; exact hSend_p (by rw [HKN.out]; decide) (by rw [HKN.out]; exact hok) (by rw [HKN.out]; exact hp));clear hok hp;obtain ⟨F5, hF5, hm5⟩ := M4.out.ff3;obtain ⟨s2, F2, hF2, hm2⟩ := (house_open hF5).bag;have HF2 := lh hF2;have HM2 := lh hm2;have HM5 := lh hm5;have hz4 := M4.out.blk;clear hF2 hm2 hm5 hF5;go_wp2_with fail
      cases hq : (pSend h.bag p).1
      all_goals
       have HQ := lh hq;rw [hq] at HE;clear hq;refine wp_region_held_drew (S := fun w' => w'.heap[bz]? = some (.cells p.cells 103 (0, 0))) (by kernel_rfl) hz4 (fun hHeld => ?_);refine tK 0 ?_;try simp only [pS]
       refine tK 1 ?_;try simp only [pS]
       refine tK 2 ?_;try simp only [pS]
       refine tK 3 ?_;try simp only [pS]
       refine tC 4 fun K hK => ?_;go_simp;go_at_call 69
       have hx5 : Ext w4 w4.drew := Touch.drew (Touch.refl _ w4);refine (bagS_send' w4.drew F2 gh 25 s2 h.bag p (Rep.ext HF2.out hx5)).mono ?_;rintro e w6 ⟨rfl, hq6⟩;have M6 := lh (HM5.out _ _ (HM2.out _ _ (Moved.ahead hx5 hq6)));refine hK.out _ _ M6.out.blk (fun hHeld => ?_);clear hK K;try simp only [pS]
       rw [HQ.out];refine tK 5 ?_;try simp only [pS]
       refine tD ?_;clear hq6 hHeld hz4;go_wp2
       go_ret
       unfold HStepPost;rw [HE.out];exact ⟨rfl, M6.out.left.left⟩
  ·have HKN := lh hk;clear hn;obtain ⟨F1, hF1, hm1⟩ := M1.out.fstM;obtain ⟨s, Fs, hFs, ms⟩ := (house_open hF1).g2;have HFS := lh hFs;rw [hk] at hcn;rw [HK2.out] at hck;clear hF1 hm1 hFs ms hk;go_wp2_with fail
   refine wp_region_held_drew (S := fun w' => w'.heap[b]? = some (.cells x.cells 85 (0, 0)) /\ w'.cell? ⟨b, 1, none⟩ = some (.int .i64 2)) (by kernel_rfl) ⟨hb1, hcn⟩ (fun hHeld => ?_);refine tK 0 ?_;try simp only [pS]
   refine tK 1 ?_;try simp only [pS]
   refine tK 2 ?_ (hY := fun w' hw' => by
    obtain ⟨hh1, hh2⟩ := hw';go_simp;try with_reducible rfl)
   try simp only [pS]
   refine tK 3 ?_;try simp only [pS]
   refine tK 4 ?_;try simp only [pS]
   refine tK 5 ?_;try simp only [pS]
   refine wpAnyH_ready (rs := [6, 10]) (by kernel_rfl) (by simp) ?_;refine AllReadyH.cons (gT rfl) (fun K hK => ?_) (AllReadyH.cons (gT rfl) (fun K hK => ?_) AllReadyH.nil)
   ·skip
    go_simp;go_at_call 68
    have hxc : Ext w1 w1.drew := Touch.drew (Touch.refl _ w1);refine (guestS_send' w1.drew Fs gh 17 s _ (Rep.ext HFS.out hxc)).mono ?_;rintro e w2 ⟨rfl, hx2⟩;have M2 := lh (M1.out.behind (hxc.trans hx2));have hb2 := M2.out.blk;have hc2 := (cell_of hb2 1).trans (Step.get1 x);rw [HKN.out] at hc2;have hlb2 := (aG hb2).1;have hb3 : ∀ o, (w2.alloc o).heap[b]? = some (.cells x.cells 85 (0, 0)) := fun o => (Below.heap_alloc _ _ _ hlb2).trans hb2
    have hc3 : ∀ o, (w2.alloc o).cell? ⟨b, 1, none⟩ = some (.int .i64 2) := fun o => by
     have := (cell_of (hb3 o) 1).trans (Step.get1 x);rwa [HKN.out] at this
    clear hx2;refine hK.out _ _ ⟨hb2, hc2⟩ (fun hHeld => ?_);clear hK K;try simp only [pS]
    refine tK 7 ?_;try simp only [pS]
    refine tK 8 ?_;try simp only [pS]
    refine tK 9 ?_;try simp only [pS]
    refine tC 10 fun K hK => ?_;go_simp;refine hK.out _ _ ⟨hb3 _, hc3 _⟩ (fun hHeld => ?_);clear hK K;try simp only [pS]
    refine tC 11 fun K hK => ?_;go_simp;refine hK.out _ _ ⟨hb3 _, hc3 _⟩ (fun hHeld => ?_);clear hK K;try simp only [pS]
    refine tK 12 ?_;try simp only [pS]
    refine tD ?_;have M4 := lh (M2.out.box (gSend (h.G 2)).1.cells 103);clear hHeld M2 hb2 hlb2 hsz hb1 hb3 hc3 hc2 hcn hck HFS;generalize w2.alloc (.cells (gSend (h.G 2)).1.cells 103) = w4 at M4 ⊢;generalize w2.heap.size = bz at M4 ⊢;obtain ⟨ok, hok⟩ : ∃ ok, (gSend (h.G 2)).2 = ok := ⟨_, rfl⟩
    obtain ⟨p, hp⟩ : ∃ p, (gSend (h.G 2)).1 = p := ⟨_, rfl⟩
    rw [hp] at M4;rw [hok];cases ok with
    | false =>
      have HE := lh (show hStep h x = (6, h) from by rw [hStep_2 HK2.out]; exact hSend_6 (by rw [HKN.out]; decide) (by rw [HKN.out]; exact hok));clear hok hp;go_wp2
      go_ret
      unfold HStepPost;rw [HE.out];exact ⟨rfl, M4.out.left.left⟩
    | true =>
      have HE := lh (show hStep h x = (if (pSend h.bag p).1 = true then 0 else 7, { h with bag := (pSend h.bag p).2 }) from by rw [hStep_2 HK2.out]; exact hSend_p (by rw [HKN.out]; decide) (by rw [HKN.out]; exact hok) (by rw [HKN.out]; exact hp));clear hok hp;obtain ⟨F5, hF5, hm5⟩ := M4.out.ff3;obtain ⟨s2, F2, hF2, hm2⟩ := (house_open hF5).bag;have HF2 := lh hF2;have HM2 := lh hm2;have HM5 := lh hm5;have hz4 := M4.out.blk;clear hF2 hm2 hm5 hF5;go_wp2_with fail
      cases hq : (pSend h.bag p).1
      all_goals
       have HQ := lh hq;rw [hq] at HE;clear hq;refine wp_region_held_drew (S := fun w' => w'.heap[bz]? = some (.cells p.cells 103 (0, 0))) (by kernel_rfl) hz4 (fun hHeld => ?_);refine tK 0 ?_;try simp only [pS]
       refine tK 1 ?_;try simp only [pS]
       refine tK 2 ?_;try simp only [pS]
       refine tK 3 ?_;try simp only [pS]
       refine tC 4 fun K hK => ?_;go_simp;go_at_call 69
       have hx5 : Ext w4 w4.drew := Touch.drew (Touch.refl _ w4);refine (bagS_send' w4.drew F2 gh 25 s2 h.bag p (Rep.ext HF2.out hx5)).mono ?_;rintro e w6 ⟨rfl, hq6⟩;have M6 := lh (HM5.out _ _ (HM2.out _ _ (Moved.ahead hx5 hq6)));refine hK.out _ _ M6.out.blk (fun hHeld => ?_);clear hK K;try simp only [pS]
       rw [HQ.out];refine tK 5 ?_;try simp only [pS]
       refine tD ?_;clear hq6 hHeld hz4;go_wp2
       go_ret
       unfold HStepPost;rw [HE.out];exact ⟨rfl, M6.out.left.left⟩
   ·skip
    go_simp;have Ma := (M1.out.box (Packet.zero).cells 103).behind (Touch.drew (Touch.refl _ _));have hxa : Ext w1 ((w1.alloc (.cells (Packet.zero).cells 103)).drew) := ((Touch.refl _ w1).alloc _).drew;rw [hsz] at Ma;have hba := Ma.left.blk;have hca := (cell_of hba 1).trans (Step.get1 x);rw [HKN.out] at hca;refine hK.out _ _ ⟨hba, hca⟩ (fun hHeld => ?_);clear hK K;try simp only [pS]
    generalize (w1.alloc (.cells (Packet.zero).cells 103)).drew = wa at Ma hxa hba hca hHeld ⊢;obtain ⟨bz, hbz⟩ : ∃ bz, b + 1 = bz := ⟨_, rfl⟩
    rw [hbz] at Ma ⊢;have MA := lh Ma;clear Ma;refine tC 6 fun K hK => ?_;go_simp;go_at_call 68
    refine (guestS_send' wa Fs gh 17 s _ (Rep.ext HFS.out hxa)).mono ?_;rintro e w2 ⟨rfl, hx2⟩;have M2 := lh (MA.out.behind hx2);have hz2 := M2.out.blk;have hb2 := M2.out.left.blk;have hc2 := (cell_of hb2 1).trans (Step.get1 x);rw [HKN.out] at hc2;clear hx2;refine hK.out _ _ ⟨hb2, hc2⟩ (fun hHeld => ?_);clear hK K;try simp only [pS]
    refine tK 7 ?_;try simp only [pS]
    refine tK 8 ?_;try simp only [pS]
    refine tK 9 ?_;try simp only [pS]
    refine tC 11 fun K hK => ?_;go_simp;have M4 := lh (M2.out.turnB (w' := w2.setRow bz (gSend (h.G 2)).1.cells) ((Touch.refl (fun k => k = bz) w2).setRow (.inl rfl) _) (setRow_heap _ _ _ _ _ _ hz2));have hb4 := M4.out.left.blk;have hc4 := (cell_of hb4 1).trans (Step.get1 x);rw [HKN.out] at hc4;refine hK.out _ _ ⟨hb4, hc4⟩ (fun hHeld => ?_);clear hK K;try simp only [pS]
    refine tK 12 ?_;try simp only [pS]
    refine tD ?_;clear hHeld hz2 M2 MA hsz hb1 hb2 hc2 hb4 hc4 hba hca hxa hcn hck HFS;generalize w2.setRow bz (gSend (h.G 2)).1.cells = w4 at M4 ⊢;obtain ⟨ok, hok⟩ : ∃ ok, (gSend (h.G 2)).2 = ok := ⟨_, rfl⟩
    obtain ⟨p, hp⟩ : ∃ p, (gSend (h.G 2)).1 = p := ⟨_, rfl⟩
    rw [hp] at M4;rw [hok];cases ok with
    | false =>
      have HE := lh (show hStep h x = (6, h) from by rw [hStep_2 HK2.out]; exact hSend_6 (by rw [HKN.out]; decide) (by rw [HKN.out]; exact hok));clear hok hp;go_wp2
      go_ret
      unfold HStepPost;rw [HE.out];exact ⟨rfl, M4.out.left.left⟩
    | true =>
      have HE := lh (show hStep h x = (if (pSend h.bag p).1 = true then 0 else 7, { h with bag := (pSend h.bag p).2 }) from by rw [hStep_2 HK2.out]; exact hSend_p (by rw [HKN.out]; decide) (by rw [HKN.out]; exact hok) (by rw [HKN.out]; exact hp));clear hok hp;obtain ⟨F5, hF5, hm5⟩ := M4.out.ff3;obtain ⟨s2, F2, hF2, hm2⟩ := (house_open hF5).bag;have HF2 := lh hF2;have HM2 := lh hm2;have HM5 := lh hm5;have hz4 := M4.out.blk;clear hF2 hm2 hm5 hF5;go_wp2_with fail
      cases hq : (pSend h.bag p).1
      all_goals
       have HQ := lh hq;rw [hq] at HE;clear hq;refine wp_region_held_drew (S := fun w' => w'.heap[bz]? = some (.cells p.cells 103 (0, 0))) (by kernel_rfl) hz4 (fun hHeld => ?_);refine tK 0 ?_;try simp only [pS]
       refine tK 1 ?_;try simp only [pS]
       refine tK 2 ?_;try simp only [pS]
       refine tK 3 ?_;try simp only [pS]
       refine tC 4 fun K hK => ?_;go_simp;go_at_call 69
       have hx5 : Ext w4 w4.drew := Touch.drew (Touch.refl _ w4);refine (bagS_send' w4.drew F2 gh 25 s2 h.bag p (Rep.ext HF2.out hx5)).mono ?_;rintro e w6 ⟨rfl, hq6⟩;have M6 := lh (HM5.out _ _ (HM2.out _ _ (Moved.ahead hx5 hq6)));refine hK.out _ _ M6.out.blk (fun hHeld => ?_);clear hK K;try simp only [pS]
       rw [HQ.out];refine tK 5 ?_;try simp only [pS]
       refine tD ?_;clear hq6 hHeld hz4;go_wp2
       go_ret
       unfold HStepPost;rw [HE.out];exact ⟨rfl, M6.out.left.left⟩
 ·have HE := lh ((hStep_2 (h := h) k2).trans (hSend_9 hn));rw [k2] at hck;clear k2;go_enter Tryz.func65, Tryz.ntmps65
  go_upto_region 1 with fail
  generalize w.alloc (.cells x.cells 85) = w1 at *;obtain ⟨b, hb⟩ : ∃ b, w.heap.size = b := ⟨_, rfl⟩
  rw [hb] at hb1 hcn hck M1 hsz ⊢;by_cases h0 : x.n < 0
  ·clear hn;go_wp2
   go_ret
   unfold HStepPost;rw [HE.out];exact ⟨rfl, M1.out.left⟩
  ·have h3 : 3 <= x.n := by omega
   clear hn;go_wp2
   go_ret
   unfold HStepPost;rw [HE.out];exact ⟨rfl, M1.out.left⟩
theorem house_step_o (w : World) (gh : Nat) (F : Nat -> Prop) (h : House) (x : Step) (hh : (repHouse gh).on w F h) (hk : x.kind = 6 \/ x.kind < 1 \/ 7 < x.kind) :
 Calls Tryz.prog 65 #[.pointer (some ⟨gh, 0, none⟩), .agg x.cells] w (HStepPost w gh F (hStep h x)) := by
 have M1 := lh ((Rep.stays hh).box x.cells 85);have hb1 := M1.out.blk;have hck := (cell_of hb1 0).trans (Step.get0 x);have hcn := (cell_of hb1 1).trans (Step.get1 x);have hsz : (w.alloc (.cells x.cells 85)).heap.size = w.heap.size + 1 := World.size_alloc _ _;clear hh;rcases hk with hk | hk | hk
 ·have HE := lh (hStep_6 (h := h) hk);rw [hk] at hck;clear hk;go_enter Tryz.func65, Tryz.ntmps65
  go_upto_region 1 with fail
  generalize w.alloc (.cells x.cells 85) = w1 at *;obtain ⟨b, hb⟩ : ∃ b, w.heap.size = b := ⟨_, rfl⟩
  rw [hb] at hb1 hcn hck M1 hsz ⊢;go_wp2
  go_ret
  unfold HStepPost;rw [HE.out];exact ⟨rfl, M1.out.left⟩
 ·have HE := lh (hStep_o (h := h) (.inl hk));go_enter Tryz.func65, Tryz.ntmps65
  go_upto_region 1 with fail
  generalize w.alloc (.cells x.cells 85) = w1 at *;obtain ⟨b, hb⟩ : ∃ b, w.heap.size = b := ⟨_, rfl⟩
  rw [hb] at hb1 hcn hck M1 hsz ⊢;go_wp2
  go_ret
  unfold HStepPost;rw [HE.out];exact ⟨rfl, M1.out.left⟩
 ·have HE := lh (hStep_o (h := h) (.inr hk));go_enter Tryz.func65, Tryz.ntmps65
  go_upto_region 1 with fail
  generalize w.alloc (.cells x.cells 85) = w1 at *;obtain ⟨b, hb⟩ : ∃ b, w.heap.size = b := ⟨_, rfl⟩
  rw [hb] at hb1 hcn hck M1 hsz ⊢;go_wp2
  go_ret
  unfold HStepPost;rw [HE.out];exact ⟨rfl, M1.out.left⟩
end Go.Proofs.YtalfbhhldfffkaaGreatDoor
