/- House4: the walk of Step of the reference's House: the packets' steps; Step whole. (And behind it: House5, House6.) -/
import Derived.Test.YtalfbhhldfffkaaGreatDoorGHouseB
import Derived.Test.YtalfbhhldfffkaaGreatDoorGWorld
import Derived.Deep.LoopGhost
set_option maxHeartbeats 8000000
set_option maxRecDepth 100000
namespace Go.Proofs.YtalfbhhldfffkaaGreatDoor
open Go.RowKit
theorem bagS_slice {w : World} {g o : Nat} {s : Slot o} {F : Nat -> Prop} {l : List Packet} (h : (repBagS g o s).on w F l) : ∃ A c, w.cell? ⟨g, o, none⟩ = some (.slice A l.length c) := by
 obtain ⟨v, _, hh⟩ := h;obtain ⟨A, c, rfl, _⟩ := hh.own.form;exact ⟨A, c, hh.at0⟩
theorem house_step_none (w : World) (gh : Nat) (F : Nat -> Prop) (h : House) (x : Step) (hh : (repHouse gh).on w F h) (hbag : h.bag = []) (hk : x.kind = 3 \/ x.kind = 4 \/ x.kind = 5 \/ x.kind = 7) :
 Calls Tryz.prog 65 #[.pointer (some ⟨gh, 0, none⟩), .agg x.cells] w (HStepPost w gh F (hStep h x)) := by
 have HE := lh ((hStep_p (h := h) hk).trans (hPacket_0 hbag));have M1 := lh ((Rep.stays hh).box x.cells 85);have hb1 := M1.out.blk;have hck := (cell_of hb1 0).trans (Step.get0 x);have hcn := (cell_of hb1 1).trans (Step.get1 x);have hsz : (w.alloc (.cells x.cells 85)).heap.size = w.heap.size + 1 := World.size_alloc _ _;clear hh;obtain ⟨F1, hF1, hm1⟩ := M1.out.fstM;obtain ⟨s2, F2, hF2, hm2⟩ := (house_open hF1).bag;obtain ⟨A25, c25, hc25⟩ := bagS_slice hF2;have HF2 := lh hF2;have HM2 := lh hm2;have HM1 := lh hm1;clear hF1 hm1 hF2 hm2;rw [hbag] at hc25;clear hbag;rcases hk with k | k | k | k
 all_goals
  rw [k] at hck;clear k;go_enter Tryz.func65, Tryz.ntmps65
  go_upto_region 1 with fail
  generalize w.alloc (.cells x.cells 85) = w1 at *;obtain ⟨b, hb⟩ : ∃ b, w.heap.size = b := ⟨_, rfl⟩
  rw [hb] at hb1 hcn hck M1 hsz ⊢;try rw [hb] at HM1
  go_wp2
  go_ret
  unfold HStepPost;rw [HE.out];exact ⟨rfl, M1.out.left⟩
theorem house_step5 (w : World) (gh : Nat) (F : Nat -> Prop) (h : House) (x : Step) (hh : (repHouse gh).on w F h) (hf : Fits h) (hbag : h.bag ≠ []) (hk : x.kind = 5) :
 Calls Tryz.prog 65 #[.pointer (some ⟨gh, 0, none⟩), .agg x.cells] w (HStepPost w gh F (hStep h x)) := by
 have HE0 := lh ((hStep_p (h := h) (.inr (.inr (.inl hk)))).trans (hPacket_5 hbag hk));have HBL := lh hf.bag
 have hl0 : ((h.bag.length : Int) == 0) = false := by
  have : h.bag.length ≠ 0 := fun e => hbag (List.eq_nil_of_length_eq_zero e);simp [hbag]
 clear hf hbag;have M1 := lh ((Rep.stays hh).box x.cells 85);have hb1 := M1.out.blk;have hck := (cell_of hb1 0).trans (Step.get0 x);have hcn := (cell_of hb1 1).trans (Step.get1 x);have hsz : (w.alloc (.cells x.cells 85)).heap.size = w.heap.size + 1 := World.size_alloc _ _;clear hh;obtain ⟨F1, hF1, hm1⟩ := M1.out.fstM;obtain ⟨s2, F2, hF2, hm2⟩ := (house_open hF1).bag;obtain ⟨A25, c25, hc25⟩ := bagS_slice hF2;have HF2 := lh hF2;have HM2 := lh hm2;have HM1 := lh hm1;clear hF1 hm1 hF2 hm2;rw [hk] at hck;clear hk;go_enter Tryz.func65, Tryz.ntmps65
 go_upto_region 1 with fail
 generalize w.alloc (.cells x.cells 85) = w1 at *;obtain ⟨b, hb⟩ : ∃ b, w.heap.size = b := ⟨_, rfl⟩
 rw [hb] at hb1 hcn hck M1 hsz ⊢;try rw [hb] at HM1
 go_wp2_with fail
 have he := HE0.out;cases hq : (pDouble h.bag x.n).1
 all_goals
  have HQ := lh hq;rw [hq] at he;have HE := lh he;clear hq he HE0;refine wp_region_held_drew (S := fun w' => w'.heap[b]? = some (.cells x.cells 85 (0, 0)) /\ w'.cell? ⟨b, 1, none⟩ = some (.int .i64 x.n)) (by kernel_rfl) ⟨hb1, hcn⟩ (fun hHeld => ?_);refine tK 0 ?_;try simp only [pS]
  refine tK 1 ?_;try simp only [pS]
  refine tK 2 ?_;try simp only [pS]
  refine tK 3 ?_;try simp only [pS]
  refine tK 4 ?_ (hY := fun w' hw' => by
   obtain ⟨hh1, hh2⟩ := hw';go_simp;try with_reducible rfl)
  try simp only [pS]
  refine tC 5 fun K hK => ?_;go_simp;go_at_call 112
  have hx3 : Ext w1 w1.drew := Touch.drew (Touch.refl _ w1);refine (bagS_double' w1.drew F2 gh 25 s2 h.bag x.n (Rep.ext HF2.out hx3) HBL.out).mono ?_;rintro e w4 ⟨rfl, hq4⟩;have M4 := lh (HM1.out _ _ (HM2.out _ _ (Moved.ahead hx3 hq4)));refine hK.out _ _ ⟨M4.out.blk, (cell_of M4.out.blk 1).trans (Step.get1 x)⟩ (fun hHeld => ?_);clear hK K;try simp only [pS]
  rw [HQ.out];refine tK 6 ?_;try simp only [pS]
  refine tD ?_;clear hq4 hHeld;go_wp2
  go_ret
  unfold HStepPost;rw [HE.out];exact ⟨rfl, M4.out.left⟩
theorem house_step3 (w : World) (gh : Nat) (F : Nat -> Prop) (h : House) (x : Step) (hh : (repHouse gh).on w F h) (hf : Fits h) (hbag : h.bag ≠ []) (hk : x.kind = 3) :
 Calls Tryz.prog 65 #[.pointer (some ⟨gh, 0, none⟩), .agg x.cells] w (HStepPost w gh F (hStep h x)) := by
 have HKP := lh (show x.kind = 3 \/ x.kind = 4 \/ x.kind = 5 \/ x.kind = 7 from by omega);have HKK := lh hk;have HB0 := lh hbag;have HBL := lh hf.bag;have HFI := lh (hTook_fits hf x.n);have HST := lh (show StrCall (pTake h.bag x.n).1.call from hf.calls _ (pTake_took x.n hbag))
 have hl0 : ((h.bag.length : Int) == 0) = false := by
  have : h.bag.length ≠ 0 := fun e => hbag (List.eq_nil_of_length_eq_zero e);simp [hbag]
 clear hf hbag;have M1 := lh ((Rep.stays hh).box x.cells 85);have hb1 := M1.out.blk;have hck := (cell_of hb1 0).trans (Step.get0 x);have hcn := (cell_of hb1 1).trans (Step.get1 x);have hsz : (w.alloc (.cells x.cells 85)).heap.size = w.heap.size + 1 := World.size_alloc _ _;clear hh;obtain ⟨F1, hF1, hm1⟩ := M1.out.fstM;obtain ⟨s2, F2, hF2, hm2⟩ := (house_open hF1).bag;obtain ⟨A25, c25, hc25⟩ := bagS_slice hF2;have HF2 := lh hF2;have HM2 := lh hm2;have HM1 := lh hm1;clear hF1 hm1 hF2 hm2;rw [hk] at hck;clear hk;go_enter Tryz.func65, Tryz.ntmps65
 go_upto_region 1 with fail
 generalize w.alloc (.cells x.cells 85) = w1 at *;obtain ⟨b, hb⟩ : ∃ b, w.heap.size = b := ⟨_, rfl⟩
 rw [hb] at hb1 hcn hck M1 hsz ⊢;try rw [hb] at HM1
 go_wp2_with fail
 obtain ⟨p, hp⟩ : ∃ p, (pTake h.bag x.n).1 = p := ⟨_, rfl⟩
 have HP := lh hp;refine wp_region_held_drew (S := fun w' => w'.heap[b]? = some (.cells x.cells 85 (0, 0)) /\ w'.cell? ⟨b, 1, none⟩ = some (.int .i64 x.n)) (by kernel_rfl) ⟨hb1, hcn⟩ (fun hHeld => ?_);refine tK 0 ?_;try simp only [pS]
 refine tK 1 ?_;try simp only [pS]
 refine tK 2 ?_;try simp only [pS]
 refine tK 3 ?_;try simp only [pS]
 refine tK 4 ?_ (hY := fun w' hw' => by
  obtain ⟨hh1, hh2⟩ := hw';go_simp;try with_reducible rfl)
 try simp only [pS]
 refine wpAnyH_ready (rs := [5, 9]) (by kernel_rfl) (by simp) ?_;refine AllReadyH.cons (gT rfl) (fun K hK => ?_) (AllReadyH.cons (gT rfl) (fun K hK => ?_) AllReadyH.nil)
 ·skip
  go_simp;go_at_call 66
  have hxc : Ext w1 w1.drew := Touch.drew (Touch.refl _ w1);refine (bagS_take' w1.drew F2 gh 25 s2 h.bag x.n (Rep.ext HF2.out hxc) HBL.out).mono ?_;rw [hp];rintro e w2 ⟨rfl, hq2⟩;have M2 := lh (HM1.out _ _ (HM2.out _ _ (Moved.ahead hxc hq2)));have hb2 := M2.out.blk;have hlb2 := (aG hb2).1;have hb3 : ∀ o, (w2.alloc o).heap[b]? = some (.cells x.cells 85 (0, 0)) := fun o => (Below.heap_alloc _ _ _ hlb2).trans hb2;have hc3 : ∀ o, (w2.alloc o).cell? ⟨b, 1, none⟩ = some (.int .i64 x.n) := fun o => (cell_of (hb3 o) 1).trans (Step.get1 x);clear hq2 hp;refine hK.out _ _ ⟨hb2, (cell_of hb2 1).trans (Step.get1 x)⟩ (fun hHeld => ?_);clear hK K;try simp only [pS]
  refine tK 6 ?_;try simp only [pS]
  refine tK 7 ?_;try simp only [pS]
  refine tK 8 ?_;try simp only [pS]
  refine tC 9 fun K hK => ?_;go_simp;refine hK.out _ _ ⟨hb3 _, hc3 _⟩ (fun hHeld => ?_);clear hK K;try simp only [pS]
  refine tC 10 fun K hK => ?_;go_simp;refine hK.out _ _ ⟨hb3 _, hc3 _⟩ (fun hHeld => ?_);clear hK K;try simp only [pS]
  refine tK 11 ?_;try simp only [pS]
  refine tD ?_;have M4 := lh (M2.out.box p.cells 103);clear hHeld M2 hb2 hlb2 hsz hb1 hb3 hc3 hcn hck HF2 HM2 HM1 hc25 hl0;generalize w2.alloc (.cells p.cells 103) = w4 at M4 ⊢;generalize w2.heap.size = bz at M4 ⊢;have hb4 := M4.out.left.blk;have hz4 := M4.out.blk;have hck4 := (cell_of hb4 0).trans (Step.get0 x);rw [HKK.out] at hck4;have hcr4 := (cell_of hz4 0).trans (Packet.get0 p);have HE := lh (show hStep h x = (0, hCome (hTook h x.n) p) from by rw [hStep_p HKP.out, hPacket_3 HB0.out HKK.out, HP.out]);clear hck4 hcr4;have hck4 := (cell_of hb4 0).trans (Step.get0 x);rw [HKK.out] at hck4;go_wp2_with fail
  obtain ⟨F7, hF7, hm7⟩ := M4.out.ff3;refine (house_come w4 gh F7 (hTook h x.n) p hF7 HFI.out.log HFI.out.done (HP.out ▸ HST.out)).mono ?_;rintro e w5 ⟨rfl, hq5⟩;have M5 := lh (hm7 _ _ hq5);have hb5 := M5.out.left.blk;have hz5 := M5.out.blk;have hck5 := (cell_of hb5 0).trans (Step.get0 x);rw [HKK.out] at hck5;clear hF7 hm7 hq5 hb4 hz4 hck4 hb5 hz5;go_wp2
  go_ret
  unfold HStepPost;rw [HE.out];exact ⟨rfl, M5.out.left.left⟩
 ·skip
  go_simp;have Ma := (M1.out.box (Packet.zero).cells 103).behind (Touch.drew (Touch.refl _ _));rw [hsz] at Ma;have hba := Ma.left.blk;refine hK.out _ _ ⟨hba, (cell_of hba 1).trans (Step.get1 x)⟩ (fun hHeld => ?_);clear hK K;try simp only [pS]
  generalize (w1.alloc (.cells (Packet.zero).cells 103)).drew = wa at Ma hba hHeld ⊢;obtain ⟨bz, hbz⟩ : ∃ bz, b + 1 = bz := ⟨_, rfl⟩
  rw [hbz] at Ma ⊢;have MA := lh Ma;clear Ma;refine tC 5 fun K hK => ?_;go_simp;go_at_call 66
  obtain ⟨F5, hF5, hm5⟩ := MA.out.ff3;obtain ⟨s5, F6, hF6, hm6⟩ := (house_open hF5).bag;refine (bagS_take' wa F6 gh 25 s5 h.bag x.n hF6 HBL.out).mono ?_;rw [hp];rintro e w2 ⟨rfl, hq2⟩;have M2 := lh (hm5 _ _ (hm6 _ _ hq2));clear hF5 hm5 hF6 hm6 hq2 hp;have hz2 := M2.out.blk;have hb2 := M2.out.left.blk;refine hK.out _ _ ⟨hb2, (cell_of hb2 1).trans (Step.get1 x)⟩ (fun hHeld => ?_);clear hK K;try simp only [pS]
  refine tK 6 ?_;try simp only [pS]
  refine tK 7 ?_;try simp only [pS]
  refine tK 8 ?_;try simp only [pS]
  refine tC 10 fun K hK => ?_;go_simp;have M4 := lh (M2.out.turnB (w' := w2.setRow bz p.cells) ((Touch.refl (fun k => k = bz) w2).setRow (.inl rfl) _) (setRow_heap _ _ _ _ _ _ hz2));have hb4' := M4.out.left.blk;refine hK.out _ _ ⟨hb4', (cell_of hb4' 1).trans (Step.get1 x)⟩ (fun hHeld => ?_);clear hK K;try simp only [pS]
  refine tK 11 ?_;try simp only [pS]
  refine tD ?_;clear hHeld hz2 M2 MA hsz hb1 hb2 hb4' hba hcn hck HF2 HM2 HM1 hc25 hl0;generalize w2.setRow bz p.cells = w4 at M4 ⊢;have hb4 := M4.out.left.blk;have hz4 := M4.out.blk;have hck4 := (cell_of hb4 0).trans (Step.get0 x);rw [HKK.out] at hck4;have hcr4 := (cell_of hz4 0).trans (Packet.get0 p);have HE := lh (show hStep h x = (0, hCome (hTook h x.n) p) from by rw [hStep_p HKP.out, hPacket_3 HB0.out HKK.out, HP.out]);clear hck4 hcr4;have hck4 := (cell_of hb4 0).trans (Step.get0 x);rw [HKK.out] at hck4;go_wp2_with fail
  obtain ⟨F7, hF7, hm7⟩ := M4.out.ff3;refine (house_come w4 gh F7 (hTook h x.n) p hF7 HFI.out.log HFI.out.done (HP.out ▸ HST.out)).mono ?_;rintro e w5 ⟨rfl, hq5⟩;have M5 := lh (hm7 _ _ hq5);have hb5 := M5.out.left.blk;have hz5 := M5.out.blk;have hck5 := (cell_of hb5 0).trans (Step.get0 x);rw [HKK.out] at hck5;clear hF7 hm7 hq5 hb4 hz4 hck4 hb5 hz5;go_wp2
  go_ret
  unfold HStepPost;rw [HE.out];exact ⟨rfl, M5.out.left.left⟩
theorem house_step4 (w : World) (gh : Nat) (F : Nat -> Prop) (h : House) (x : Step) (hh : (repHouse gh).on w F h) (hf : Fits h) (hbag : h.bag ≠ []) (hk : x.kind = 4) :
 Calls Tryz.prog 65 #[.pointer (some ⟨gh, 0, none⟩), .agg x.cells] w (HStepPost w gh F (hStep h x)) := by
 have HKP := lh (show x.kind = 3 \/ x.kind = 4 \/ x.kind = 5 \/ x.kind = 7 from by omega);have HKK := lh hk;have HB0 := lh hbag;have HBL := lh hf.bag;have HFI := lh (hTook_fits hf x.n);have HST := lh (show StrCall (pTake h.bag x.n).1.call from hf.calls _ (pTake_took x.n hbag))
 have hl0 : ((h.bag.length : Int) == 0) = false := by
  have : h.bag.length ≠ 0 := fun e => hbag (List.eq_nil_of_length_eq_zero e);simp [hbag]
 clear hf hbag;have M1 := lh ((Rep.stays hh).box x.cells 85);have hb1 := M1.out.blk;have hck := (cell_of hb1 0).trans (Step.get0 x);have hcn := (cell_of hb1 1).trans (Step.get1 x);have hsz : (w.alloc (.cells x.cells 85)).heap.size = w.heap.size + 1 := World.size_alloc _ _;clear hh;obtain ⟨F1, hF1, hm1⟩ := M1.out.fstM;obtain ⟨s2, F2, hF2, hm2⟩ := (house_open hF1).bag;obtain ⟨A25, c25, hc25⟩ := bagS_slice hF2;have HF2 := lh hF2;have HM2 := lh hm2;have HM1 := lh hm1;clear hF1 hm1 hF2 hm2;rw [hk] at hck;clear hk;go_enter Tryz.func65, Tryz.ntmps65
 go_upto_region 1 with fail
 generalize w.alloc (.cells x.cells 85) = w1 at *;obtain ⟨b, hb⟩ : ∃ b, w.heap.size = b := ⟨_, rfl⟩
 rw [hb] at hb1 hcn hck M1 hsz ⊢;try rw [hb] at HM1
 go_wp2_with fail
 obtain ⟨p, hp⟩ : ∃ p, (pTake h.bag x.n).1 = p := ⟨_, rfl⟩
 have HP := lh hp;refine wp_region_held_drew (S := fun w' => w'.heap[b]? = some (.cells x.cells 85 (0, 0)) /\ w'.cell? ⟨b, 1, none⟩ = some (.int .i64 x.n)) (by kernel_rfl) ⟨hb1, hcn⟩ (fun hHeld => ?_);refine tK 0 ?_;try simp only [pS]
 refine tK 1 ?_;try simp only [pS]
 refine tK 2 ?_;try simp only [pS]
 refine tK 3 ?_;try simp only [pS]
 refine tK 4 ?_ (hY := fun w' hw' => by
  obtain ⟨hh1, hh2⟩ := hw';go_simp;try with_reducible rfl)
 try simp only [pS]
 refine wpAnyH_ready (rs := [5, 9]) (by kernel_rfl) (by simp) ?_;refine AllReadyH.cons (gT rfl) (fun K hK => ?_) (AllReadyH.cons (gT rfl) (fun K hK => ?_) AllReadyH.nil)
 ·skip
  go_simp;go_at_call 66
  have hxc : Ext w1 w1.drew := Touch.drew (Touch.refl _ w1);refine (bagS_take' w1.drew F2 gh 25 s2 h.bag x.n (Rep.ext HF2.out hxc) HBL.out).mono ?_;rw [hp];rintro e w2 ⟨rfl, hq2⟩;have M2 := lh (HM1.out _ _ (HM2.out _ _ (Moved.ahead hxc hq2)));have hb2 := M2.out.blk;have hlb2 := (aG hb2).1;have hb3 : ∀ o, (w2.alloc o).heap[b]? = some (.cells x.cells 85 (0, 0)) := fun o => (Below.heap_alloc _ _ _ hlb2).trans hb2;have hc3 : ∀ o, (w2.alloc o).cell? ⟨b, 1, none⟩ = some (.int .i64 x.n) := fun o => (cell_of (hb3 o) 1).trans (Step.get1 x);clear hq2 hp;refine hK.out _ _ ⟨hb2, (cell_of hb2 1).trans (Step.get1 x)⟩ (fun hHeld => ?_);clear hK K;try simp only [pS]
  refine tK 6 ?_;try simp only [pS]
  refine tK 7 ?_;try simp only [pS]
  refine tK 8 ?_;try simp only [pS]
  refine tC 9 fun K hK => ?_;go_simp;refine hK.out _ _ ⟨hb3 _, hc3 _⟩ (fun hHeld => ?_);clear hK K;try simp only [pS]
  refine tC 10 fun K hK => ?_;go_simp;refine hK.out _ _ ⟨hb3 _, hc3 _⟩ (fun hHeld => ?_);clear hK K;try simp only [pS]
  refine tK 11 ?_;try simp only [pS]
  refine tD ?_;have M4 := lh (M2.out.box p.cells 103);clear hHeld M2 hb2 hlb2 hsz hb1 hb3 hc3 hcn hck HF2 HM2 HM1 hc25 hl0;generalize w2.alloc (.cells p.cells 103) = w4 at M4 ⊢;generalize w2.heap.size = bz at M4 ⊢;have hb4 := M4.out.left.blk;have hz4 := M4.out.blk;have hck4 := (cell_of hb4 0).trans (Step.get0 x);rw [HKK.out] at hck4;have hcr4 := (cell_of hz4 0).trans (Packet.get0 p);have HE := lh (show hStep h x = (0, hTook h x.n) from by rw [hStep_p HKP.out]; exact hPacket_o HB0.out (by have := HKK.out; omega) (by have := HKK.out; omega) (by have := HKK.out; omega));clear hb4 hz4;go_wp2
  go_ret
  unfold HStepPost;rw [HE.out];exact ⟨rfl, M4.out.left.left⟩
 ·skip
  go_simp;have Ma := (M1.out.box (Packet.zero).cells 103).behind (Touch.drew (Touch.refl _ _));rw [hsz] at Ma;have hba := Ma.left.blk;refine hK.out _ _ ⟨hba, (cell_of hba 1).trans (Step.get1 x)⟩ (fun hHeld => ?_);clear hK K;try simp only [pS]
  generalize (w1.alloc (.cells (Packet.zero).cells 103)).drew = wa at Ma hba hHeld ⊢;obtain ⟨bz, hbz⟩ : ∃ bz, b + 1 = bz := ⟨_, rfl⟩
  rw [hbz] at Ma ⊢;have MA := lh Ma;clear Ma;refine tC 5 fun K hK => ?_;go_simp;go_at_call 66
  obtain ⟨F5, hF5, hm5⟩ := MA.out.ff3;obtain ⟨s5, F6, hF6, hm6⟩ := (house_open hF5).bag;refine (bagS_take' wa F6 gh 25 s5 h.bag x.n hF6 HBL.out).mono ?_;rw [hp];rintro e w2 ⟨rfl, hq2⟩;have M2 := lh (hm5 _ _ (hm6 _ _ hq2));clear hF5 hm5 hF6 hm6 hq2 hp;have hz2 := M2.out.blk;have hb2 := M2.out.left.blk;refine hK.out _ _ ⟨hb2, (cell_of hb2 1).trans (Step.get1 x)⟩ (fun hHeld => ?_);clear hK K;try simp only [pS]
  refine tK 6 ?_;try simp only [pS]
  refine tK 7 ?_;try simp only [pS]
  refine tK 8 ?_;try simp only [pS]
  refine tC 10 fun K hK => ?_;go_simp;have M4 := lh (M2.out.turnB (w' := w2.setRow bz p.cells) ((Touch.refl (fun k => k = bz) w2).setRow (.inl rfl) _) (setRow_heap _ _ _ _ _ _ hz2));have hb4' := M4.out.left.blk;refine hK.out _ _ ⟨hb4', (cell_of hb4' 1).trans (Step.get1 x)⟩ (fun hHeld => ?_);clear hK K;try simp only [pS]
  refine tK 11 ?_;try simp only [pS]
  refine tD ?_;clear hHeld hz2 M2 MA hsz hb1 hb2 hb4' hba hcn hck HF2 HM2 HM1 hc25 hl0;generalize w2.setRow bz p.cells = w4 at M4 ⊢;have hb4 := M4.out.left.blk;have hz4 := M4.out.blk;have hck4 := (cell_of hb4 0).trans (Step.get0 x);rw [HKK.out] at hck4;have hcr4 := (cell_of hz4 0).trans (Packet.get0 p);have HE := lh (show hStep h x = (0, hTook h x.n) from by rw [hStep_p HKP.out]; exact hPacket_o HB0.out (by have := HKK.out; omega) (by have := HKK.out; omega) (by have := HKK.out; omega));clear hb4 hz4;go_wp2
  go_ret
  unfold HStepPost;rw [HE.out];exact ⟨rfl, M4.out.left.left⟩
theorem house_step7 (w : World) (gh : Nat) (F : Nat -> Prop) (h : House) (x : Step) (hh : (repHouse gh).on w F h) (hf : Fits h) (hbag : h.bag ≠ []) (hk : x.kind = 7) :
 Calls Tryz.prog 65 #[.pointer (some ⟨gh, 0, none⟩), .agg x.cells] w (HStepPost w gh F (hStep h x)) := by
 have HKP := lh (show x.kind = 3 \/ x.kind = 4 \/ x.kind = 5 \/ x.kind = 7 from by omega);have HKK := lh hk;have HB0 := lh hbag;have HBL := lh hf.bag;have HFI := lh (hTook_fits hf x.n);have HST := lh (show StrCall (pTake h.bag x.n).1.call from hf.calls _ (pTake_took x.n hbag))
 have hl0 : ((h.bag.length : Int) == 0) = false := by
  have : h.bag.length ≠ 0 := fun e => hbag (List.eq_nil_of_length_eq_zero e);simp [hbag]
 clear hf hbag;have M1 := lh ((Rep.stays hh).box x.cells 85);have hb1 := M1.out.blk;have hck := (cell_of hb1 0).trans (Step.get0 x);have hcn := (cell_of hb1 1).trans (Step.get1 x);have hsz : (w.alloc (.cells x.cells 85)).heap.size = w.heap.size + 1 := World.size_alloc _ _;clear hh;obtain ⟨F1, hF1, hm1⟩ := M1.out.fstM;obtain ⟨s2, F2, hF2, hm2⟩ := (house_open hF1).bag;obtain ⟨A25, c25, hc25⟩ := bagS_slice hF2;have HF2 := lh hF2;have HM2 := lh hm2;have HM1 := lh hm1;clear hF1 hm1 hF2 hm2;rw [hk] at hck;clear hk;go_enter Tryz.func65, Tryz.ntmps65
 go_upto_region 1 with fail
 generalize w.alloc (.cells x.cells 85) = w1 at *;obtain ⟨b, hb⟩ : ∃ b, w.heap.size = b := ⟨_, rfl⟩
 rw [hb] at hb1 hcn hck M1 hsz ⊢;try rw [hb] at HM1
 go_wp2_with fail
 obtain ⟨p, hp⟩ : ∃ p, (pTake h.bag x.n).1 = p := ⟨_, rfl⟩
 have HP := lh hp;refine wp_region_held_drew (S := fun w' => w'.heap[b]? = some (.cells x.cells 85 (0, 0)) /\ w'.cell? ⟨b, 1, none⟩ = some (.int .i64 x.n)) (by kernel_rfl) ⟨hb1, hcn⟩ (fun hHeld => ?_);refine tK 0 ?_;try simp only [pS]
 refine tK 1 ?_;try simp only [pS]
 refine tK 2 ?_;try simp only [pS]
 refine tK 3 ?_;try simp only [pS]
 refine tK 4 ?_ (hY := fun w' hw' => by
  obtain ⟨hh1, hh2⟩ := hw';go_simp;try with_reducible rfl)
 try simp only [pS]
 refine wpAnyH_ready (rs := [5, 9]) (by kernel_rfl) (by simp) ?_;refine AllReadyH.cons (gT rfl) (fun K hK => ?_) (AllReadyH.cons (gT rfl) (fun K hK => ?_) AllReadyH.nil)
 ·skip
  go_simp;go_at_call 66
  have hxc : Ext w1 w1.drew := Touch.drew (Touch.refl _ w1);refine (bagS_take' w1.drew F2 gh 25 s2 h.bag x.n (Rep.ext HF2.out hxc) HBL.out).mono ?_;rw [hp];rintro e w2 ⟨rfl, hq2⟩;have M2 := lh (HM1.out _ _ (HM2.out _ _ (Moved.ahead hxc hq2)));have hb2 := M2.out.blk;have hlb2 := (aG hb2).1;have hb3 : ∀ o, (w2.alloc o).heap[b]? = some (.cells x.cells 85 (0, 0)) := fun o => (Below.heap_alloc _ _ _ hlb2).trans hb2;have hc3 : ∀ o, (w2.alloc o).cell? ⟨b, 1, none⟩ = some (.int .i64 x.n) := fun o => (cell_of (hb3 o) 1).trans (Step.get1 x);clear hq2 hp;refine hK.out _ _ ⟨hb2, (cell_of hb2 1).trans (Step.get1 x)⟩ (fun hHeld => ?_);clear hK K;try simp only [pS]
  refine tK 6 ?_;try simp only [pS]
  refine tK 7 ?_;try simp only [pS]
  refine tK 8 ?_;try simp only [pS]
  refine tC 9 fun K hK => ?_;go_simp;refine hK.out _ _ ⟨hb3 _, hc3 _⟩ (fun hHeld => ?_);clear hK K;try simp only [pS]
  refine tC 10 fun K hK => ?_;go_simp;refine hK.out _ _ ⟨hb3 _, hc3 _⟩ (fun hHeld => ?_);clear hK K;try simp only [pS]
  refine tK 11 ?_;try simp only [pS]
  refine tD ?_;have M4 := lh (M2.out.box p.cells 103);clear hHeld M2 hb2 hlb2 hsz hb1 hb3 hc3 hcn hck HF2 HM2 HM1 hc25 hl0;generalize w2.alloc (.cells p.cells 103) = w4 at M4 ⊢;generalize w2.heap.size = bz at M4 ⊢;have hb4 := M4.out.left.blk;have hz4 := M4.out.blk;have hck4 := (cell_of hb4 0).trans (Step.get0 x);rw [HKK.out] at hck4;have hcr4 := (cell_of hz4 0).trans (Packet.get0 p);cases hr : p.reply with
  | true =>
    rw [hr] at hcr4;have HR := lh hr;clear hr;have HE := lh (show hStep h x = (0, hTook h x.n) from by rw [hStep_p HKP.out]; exact hPacket_o HB0.out (by have := HKK.out; omega) (by have := HKK.out; omega) (by rw [HP.out, HR.out]; simp));clear hb4 hz4;go_wp2
    go_ret
    unfold HStepPost;rw [HE.out];exact ⟨rfl, M4.out.left.left⟩
  | false =>
    rw [hr] at hcr4
    have HE := lh (show hStep h x = ((chestTear h.S p.client p.no p.call x.keep).1, { hTook h x.n with S := (chestTear h.S p.client p.no p.call x.keep).2 }) from by
     rw [hStep_p HKP.out, hPacket_7 HB0.out HKK.out (by rw [HP.out]; exact hr), HP.out])
    clear hr
    have HSS := lh (show ∀ w' : World, w'.heap[b]? = some (.cells x.cells 85 (0, 0)) -> w'.heap[bz]? = some (.cells p.cells 103 (0, 0)) ->
     w'.heap[bz]? = some (.cells p.cells 103 (0, 0)) /\ w'.cell? ⟨b, 2, none⟩ = some (.int .i64 x.keep) /\ w'.cell? ⟨bz, 1, none⟩ = some (.int .i64 p.client) /\ w'.cell? ⟨bz, 2, none⟩ = some (.int .i64 p.no) from
     fun w' h1 h2 => ⟨h2, (cell_of h1 2).trans (Step.get2 x), (cell_of h2 1).trans (Packet.get1 p), (cell_of h2 2).trans (Packet.get2 p)⟩)
    go_wp2_with fail
    refine wp_region_held_drew (S := fun w' => w'.heap[bz]? = some (.cells p.cells 103 (0, 0)) /\ w'.cell? ⟨b, 2, none⟩ = some (.int .i64 x.keep) /\ w'.cell? ⟨bz, 1, none⟩ = some (.int .i64 p.client) /\ w'.cell? ⟨bz, 2, none⟩ = some (.int .i64 p.no)) (by kernel_rfl) (HSS.out _ hb4 hz4) (fun hHeld => ?_);refine tK 0 ?_;try simp only [pS]
    refine tK 1 ?_;try simp only [pS]
    refine tK 2 ?_;try simp only [pS]
    refine tK 3 ?_;try simp only [pS]
    refine tK 4 ?_ (hY := fun w' hw' => by
     obtain ⟨hh1, hh2, hh3, hh4⟩ := hw';go_simp;try with_reducible rfl)
    try simp only [pS]
    refine tK 5 ?_;try simp only [pS]
    refine tK 6 ?_ (hY := fun w' hw' => by
     obtain ⟨hh1, hh2, hh3, hh4⟩ := hw';go_simp;try with_reducible rfl)
    try simp only [pS]
    refine tK 7 ?_;try simp only [pS]
    refine tK 8 ?_ (hY := fun w' hw' => by
     obtain ⟨hh1, hh2, hh3, hh4⟩ := hw';go_simp;try with_reducible rfl)
    try simp only [pS]
    refine tK 9 ?_;try simp only [pS]
    refine tK 10 ?_ (hY := fun w' hw' => by
     obtain ⟨hh1, hh2, hh3, hh4⟩ := hw';go_simp;try with_reducible rfl)
    try simp only [pS]
    refine tC 11 fun K hK => ?_;go_simp;go_at_call 113
    have hx5 : Ext w4 w4.drew := Touch.drew (Touch.refl _ w4);obtain ⟨F7, hF7, hm7⟩ := M4.out.ff3;obtain ⟨s7, Fs, hFs, ms⟩ := (house_open hF7).chest;refine (chestS_tear w4.drew gh 0 s7 Fs h.S p.client p.no p.call x.keep (Rep.ext hFs hx5) HFI.out.log (HP.out ▸ HST.out)).mono ?_;rintro e w6 ⟨rfl, hq6⟩;have M6 := lh (hm7 _ _ (ms _ _ (Moved.ahead hx5 hq6)));clear hF7 hm7 hFs ms hq6;refine hK.out _ _ (HSS.out _ M6.out.left.blk M6.out.blk) (fun hHeld => ?_);clear hK K;try simp only [pS]
    refine tK 12 ?_;try simp only [pS]
    refine tD ?_;clear hHeld hb4 hz4 hck4 hcr4;go_wp2
    go_ret
    unfold HStepPost;rw [HE.out];exact ⟨rfl, M6.out.left.left⟩
 ·skip
  go_simp;have Ma := (M1.out.box (Packet.zero).cells 103).behind (Touch.drew (Touch.refl _ _));rw [hsz] at Ma;have hba := Ma.left.blk;refine hK.out _ _ ⟨hba, (cell_of hba 1).trans (Step.get1 x)⟩ (fun hHeld => ?_);clear hK K;try simp only [pS]
  generalize (w1.alloc (.cells (Packet.zero).cells 103)).drew = wa at Ma hba hHeld ⊢;obtain ⟨bz, hbz⟩ : ∃ bz, b + 1 = bz := ⟨_, rfl⟩
  rw [hbz] at Ma ⊢;have MA := lh Ma;clear Ma;refine tC 5 fun K hK => ?_;go_simp;go_at_call 66
  obtain ⟨F5, hF5, hm5⟩ := MA.out.ff3;obtain ⟨s5, F6, hF6, hm6⟩ := (house_open hF5).bag;refine (bagS_take' wa F6 gh 25 s5 h.bag x.n hF6 HBL.out).mono ?_;rw [hp];rintro e w2 ⟨rfl, hq2⟩;have M2 := lh (hm5 _ _ (hm6 _ _ hq2));clear hF5 hm5 hF6 hm6 hq2 hp;have hz2 := M2.out.blk;have hb2 := M2.out.left.blk;refine hK.out _ _ ⟨hb2, (cell_of hb2 1).trans (Step.get1 x)⟩ (fun hHeld => ?_);clear hK K;try simp only [pS]
  refine tK 6 ?_;try simp only [pS]
  refine tK 7 ?_;try simp only [pS]
  refine tK 8 ?_;try simp only [pS]
  refine tC 10 fun K hK => ?_;go_simp;have M4 := lh (M2.out.turnB (w' := w2.setRow bz p.cells) ((Touch.refl (fun k => k = bz) w2).setRow (.inl rfl) _) (setRow_heap _ _ _ _ _ _ hz2));have hb4' := M4.out.left.blk;refine hK.out _ _ ⟨hb4', (cell_of hb4' 1).trans (Step.get1 x)⟩ (fun hHeld => ?_);clear hK K;try simp only [pS]
  refine tK 11 ?_;try simp only [pS]
  refine tD ?_;clear hHeld hz2 M2 MA hsz hb1 hb2 hb4' hba hcn hck HF2 HM2 HM1 hc25 hl0;generalize w2.setRow bz p.cells = w4 at M4 ⊢;have hb4 := M4.out.left.blk;have hz4 := M4.out.blk;have hck4 := (cell_of hb4 0).trans (Step.get0 x);rw [HKK.out] at hck4;have hcr4 := (cell_of hz4 0).trans (Packet.get0 p);cases hr : p.reply with
  | true =>
    rw [hr] at hcr4;have HR := lh hr;clear hr;have HE := lh (show hStep h x = (0, hTook h x.n) from by rw [hStep_p HKP.out]; exact hPacket_o HB0.out (by have := HKK.out; omega) (by have := HKK.out; omega) (by rw [HP.out, HR.out]; simp));clear hb4 hz4;go_wp2
    go_ret
    unfold HStepPost;rw [HE.out];exact ⟨rfl, M4.out.left.left⟩
  | false =>
    rw [hr] at hcr4
    have HE := lh (show hStep h x = ((chestTear h.S p.client p.no p.call x.keep).1, { hTook h x.n with S := (chestTear h.S p.client p.no p.call x.keep).2 }) from by
     rw [hStep_p HKP.out, hPacket_7 HB0.out HKK.out (by rw [HP.out]; exact hr), HP.out])
    clear hr
    have HSS := lh (show ∀ w' : World, w'.heap[b]? = some (.cells x.cells 85 (0, 0)) -> w'.heap[bz]? = some (.cells p.cells 103 (0, 0)) ->
     w'.heap[bz]? = some (.cells p.cells 103 (0, 0)) /\ w'.cell? ⟨b, 2, none⟩ = some (.int .i64 x.keep) /\ w'.cell? ⟨bz, 1, none⟩ = some (.int .i64 p.client) /\ w'.cell? ⟨bz, 2, none⟩ = some (.int .i64 p.no) from
     fun w' h1 h2 => ⟨h2, (cell_of h1 2).trans (Step.get2 x), (cell_of h2 1).trans (Packet.get1 p), (cell_of h2 2).trans (Packet.get2 p)⟩)
    go_wp2_with fail
    refine wp_region_held_drew (S := fun w' => w'.heap[bz]? = some (.cells p.cells 103 (0, 0)) /\ w'.cell? ⟨b, 2, none⟩ = some (.int .i64 x.keep) /\ w'.cell? ⟨bz, 1, none⟩ = some (.int .i64 p.client) /\ w'.cell? ⟨bz, 2, none⟩ = some (.int .i64 p.no)) (by kernel_rfl) (HSS.out _ hb4 hz4) (fun hHeld => ?_);refine tK 0 ?_;try simp only [pS]
    refine tK 1 ?_;try simp only [pS]
    refine tK 2 ?_;try simp only [pS]
    refine tK 3 ?_;try simp only [pS]
    refine tK 4 ?_ (hY := fun w' hw' => by
     obtain ⟨hh1, hh2, hh3, hh4⟩ := hw';go_simp;try with_reducible rfl)
    try simp only [pS]
    refine tK 5 ?_;try simp only [pS]
    refine tK 6 ?_ (hY := fun w' hw' => by
     obtain ⟨hh1, hh2, hh3, hh4⟩ := hw';go_simp;try with_reducible rfl)
    try simp only [pS]
    refine tK 7 ?_;try simp only [pS]
    refine tK 8 ?_ (hY := fun w' hw' => by
     obtain ⟨hh1, hh2, hh3, hh4⟩ := hw';go_simp;try with_reducible rfl)
    try simp only [pS]
    refine tK 9 ?_;try simp only [pS]
    refine tK 10 ?_ (hY := fun w' hw' => by
     obtain ⟨hh1, hh2, hh3, hh4⟩ := hw';go_simp;try with_reducible rfl)
    try simp only [pS]
    refine tC 11 fun K hK => ?_;go_simp;go_at_call 113
    have hx5 : Ext w4 w4.drew := Touch.drew (Touch.refl _ w4);obtain ⟨F7, hF7, hm7⟩ := M4.out.ff3;obtain ⟨s7, Fs, hFs, ms⟩ := (house_open hF7).chest;refine (chestS_tear w4.drew gh 0 s7 Fs h.S p.client p.no p.call x.keep (Rep.ext hFs hx5) HFI.out.log (HP.out ▸ HST.out)).mono ?_;rintro e w6 ⟨rfl, hq6⟩;have M6 := lh (hm7 _ _ (ms _ _ (Moved.ahead hx5 hq6)));clear hF7 hm7 hFs ms hq6;refine hK.out _ _ (HSS.out _ M6.out.left.blk M6.out.blk) (fun hHeld => ?_);clear hK K;try simp only [pS]
    refine tK 12 ?_;try simp only [pS]
    refine tD ?_;clear hHeld hb4 hz4 hck4 hcr4;go_wp2
    go_ret
    unfold HStepPost;rw [HE.out];exact ⟨rfl, M6.out.left.left⟩
theorem house_step (w : World) (gh : Nat) (F : Nat -> Prop) (h : House) (x : Step) (hh : (repHouse gh).on w F h) (hf : Fits h) (hx : StrWStep x) :
 Calls Tryz.prog 65 #[.pointer (some ⟨gh, 0, none⟩), .agg x.cells] w (Moves (repHouse gh) w F (hStep h x).2 (.int .i64 (hStep h x).1)) := by
 suffices hs : Calls Tryz.prog 65 #[.pointer (some ⟨gh, 0, none⟩), .agg x.cells] w (HStepPost w gh F (hStep h x)) from hs.mono fun e w' ⟨h1, h2⟩ => ⟨h1, h2⟩
 by_cases k1 : x.kind = 1
 ·exact house_step1 w gh F h x hh hf hx k1
 by_cases k2 : x.kind = 2
 ·exact house_step2 w gh F h x hh hf k2
 by_cases ko : x.kind = 6 \/ x.kind < 1 \/ 7 < x.kind
 ·exact house_step_o w gh F h x hh ko
 by_cases hb : h.bag = []
 ·exact house_step_none w gh F h x hh hb (by omega)
 by_cases k3 : x.kind = 3
 ·exact house_step3 w gh F h x hh hf hb k3
 by_cases k4 : x.kind = 4
 ·exact house_step4 w gh F h x hh hf hb k4
 by_cases k5 : x.kind = 5
 ·exact house_step5 w gh F h x hh hf hb k5
 ·exact house_step7 w gh F h x hh hf hb (by omega)
def HCalmRel (w : World) (gh : Nat) (F : Nat -> Prop) (h : House) (i : Value) (wr : World) : Prop :=
 ∃ k : Nat, i = .int .i64 k /\ k <= 3 /\ (∀ j, j < k -> busy (hDrain (hRound h j)) = true) /\ Moved (repHouse gh) w F (hRound h k) wr
def HDrainRel (w : World) (gh : Nat) (F : Nat -> Prop) (H : House) (fr : Nat -> Nat) (n : Nat) (wr : World) : Prop :=
 ∃ h' : House, weigh h'.bag = n /\ HouseOk h' fr /\ hDrain h' = H /\ Moved (repHouse gh) w F h' wr
def HSendRel (w : World) (gh : Nat) (F : Nat -> Prop) (H : House) (b i : Value) (wr : World) : Prop :=
 ∃ k : Nat, i = .int .i64 k /\ k <= 3 /\ b = .bool (busyUpto H k) /\ Moved (repHouse gh) w F (hSendUpto H k) wr
theorem gSend_open {g : Guest} (h : g.isOpen = true) : ∃ p, gSend g = (p, true) := ⟨_, by unfold gSend; rw [if_pos h]⟩
theorem gSend_shut {g : Guest} (h : g.isOpen = false) : gSend g = (Packet.zero, false) := by unfold gSend; rw [if_neg (by rw [h]; decide)]
theorem hSend1_bagged {H : House} {i : Nat} (hi : i < 3) (h : (H.G i).isOpen = true) {p : Packet} (hp : gSend (H.G i) = (p, true)) : hSend1 H i = { H with bag := (pSend H.bag p).2 } := by
 rw [hSend1_open h, hSend_p (n := (i : Int)) (by omega) (by show (gSend (H.G i)).2 = true; rw [hp]) (p := p) (by show (gSend (H.G i)).1 = p; rw [hp])]
theorem house_calm (w : World) (gh : Nat) (F : Nat -> Prop) (h : House) (fr : Nat -> Nat) (hh : (repHouse gh).on w F h) (hok : HouseOk h fr) :
 Calls Tryz.prog 41 #[.pointer (some ⟨gh, 0, none⟩)] w (Moves (repHouse gh) w F (hCalm h).2 (.int .i64 (hCalm h).1)) := by
 have HOK := lh hok;have M0 := lh (Rep.stays hh);clear hok hh;go_enter Tryz.func41, Tryz.ntmps41
 go_wp2_with fail
 go_loopw [3] (fun i wr => HCalmRel w gh F h i wr) (fun i _ => 3 - (intOf i).toNat)
 case atStart => exact ⟨0, rfl, by omega, fun j hj => by omega, M0.out⟩
 case round =>
  clear M0;obtain ⟨k, rfl, hk, hbz, hm⟩ := hrel;have HM := lh hm;have HBZ := lh hbz;clear hm hbz;by_cases hlt : k < 3
  ·have hlt' : (k : Int) < 3 := by omega
   go_wp2_with fail
   go_loopg [] (weigh (hRound h k).bag) (fun n wr => HDrainRel w gh F (hDrain (hRound h k)) fr n wr)
   case atStart => exact ⟨_, rfl, hRound_ok HOK.out k, rfl, HM.out⟩
   case round =>
    clear HM;obtain ⟨h', hn, hok', hd, hm⟩ := hrel;have HOK1 := lh hok';have HD := lh hd;have HN := lh hn;obtain ⟨F2, hF2, hm2⟩ := hm.opened;obtain ⟨s2, Fp, hFp, hmp⟩ := (house_open hF2).bag;obtain ⟨A25, c25, hc25⟩ := bagS_slice hFp;have HFP := lh hFp;have HMP := lh hmp;have HM2 := lh hm2;have HM := lh hm;clear hok' hd hn hm hF2 hm2 hFp hmp;by_cases hb : h'.bag = []
    ·have hl0 : (h'.bag.length : Int) = 0 := by rw [hb]; rfl
     have HH := lh (show h' = hDrain (hRound h k) from (hDrain_nil hb).symm.trans HD.out);rw [hb] at hc25;have HM4 := lh (show Moved (repHouse gh) w F (hDrain (hRound h k)) wr from HH.out ▸ HM.out);clear HM2 HMP HFP HOK1 HD HN HH HM hb hl0;go_wp2_with fail
     go_loopw [6, 7] (fun b i wr => HSendRel w gh F (hDrain (hRound h k)) b i wr) (fun _ i _ => 3 - (intOf i).toNat)
     case atStart => exact ⟨0, rfl, by omega, rfl, HM4.out⟩
     case round =>
      clear HM4 hc25;obtain ⟨q, rfl, hq, rfl, hm4⟩ := hrel;have HM4 := lh hm4;clear hm4;by_cases hq3 : q = 3
      ·subst hq3;rw [busyUpto_3] at *;have HMX := lh (show Moved (repHouse gh) w F (hSendAll (hDrain (hRound h k))) wr from HM4.out);cases hbu : busy (hDrain (hRound h k)) with
       | false =>
         have HE := lh (hCalm_still hlt HBZ.out hbu);have HSH := lh (show Moved (repHouse gh) w F (hDrain (hRound h k)) wr from hSendAll_shut hbu ▸ HMX.out);clear hbu;go_wp2
         go_ret
         rw [HE.out];exact ⟨rfl, HSH.out⟩
       | true =>
         have HBZ' := lh (show ∀ j, j < k + 1 -> busy (hDrain (hRound h j)) = true from fun j hj => by
          by_cases e : j = k
          ·subst e; exact hbu
          ·exact HBZ.out j (by omega))
         go_wp2
         go_roundw
         case rel => exact ⟨k + 1, by go_num, by omega, HBZ'.out, HMX.out⟩
         case measure => simp [intOf]; omega
      ·obtain rfl | rfl | rfl : q = 0 \/ q = 1 \/ q = 2 := by omega
       ·have hbu : busyUpto (hDrain (hRound h k)) 1 = (busyUpto (hDrain (hRound h k)) 0 || ((hDrain (hRound h k)).G 0).isOpen) := rfl;obtain ⟨F2, hF2, hm2⟩ := HM4.out.opened;obtain ⟨s, Fs, hFs, _⟩ := (house_open hF2).g0;have HFS := lh hFs;have hGG := hSendUpto_G (hDrain (hRound h k)) 0;have HUP := lh (show hSendUpto (hDrain (hRound h k)) 1 = hSend1 (hSendUpto (hDrain (hRound h k)) 0) 0 from rfl);generalize hSendUpto (hDrain (hRound h k)) 0 = H1 at *;clear hF2 hm2 hFs;cases ho : ((hDrain (hRound h k)).G 0).isOpen with
        | true =>
          have hoo : (H1.G 0).isOpen = true := by rw [hGG]; exact ho
          obtain ⟨p, hp⟩ := gSend_open hoo;have HE := lh (hSend1_bagged (by decide) hoo hp);have HBU := lh (show busyUpto (hDrain (hRound h k)) 1 = true by rw [hbu, ho, Bool.or_true]);have HP := lh hp;clear hbu ho hoo hp hGG;go_wp2_with fail
          refine (guestS_send' wr Fs gh 1 s _ HFS.out).mono ?_;unfold SendGuest;rw [HP.out];rintro e w5 ⟨rfl, hx5⟩;have M5 := lh ((HM4.out.behind hx5).box p.cells 103);have hz5 := M5.out.blk;clear hx5;go_wp2_with fail
          generalize w5.alloc (.cells p.cells 103) = w6 at M5 hz5 ⊢;generalize w5.heap.size = bz at M5 hz5 ⊢;refine wp_region_held_drew (S := fun w' => w'.heap[bz]? = some (.cells p.cells 103 (0, 0))) (by kernel_rfl) hz5 (fun hHeld => ?_);refine tK 0 ?_;try simp only [pS]
          refine tK 1 ?_;try simp only [pS]
          refine tK 2 ?_;try simp only [pS]
          refine tK 3 ?_;try simp only [pS]
          refine tC 4 fun K hK => ?_;go_simp;go_at_call 69
          have hx6 : Ext w6 w6.drew := Touch.drew (Touch.refl _ w6);obtain ⟨F7, hF7, hm7⟩ := M5.out.fstM;obtain ⟨s2, F8, hF8, hm8⟩ := (house_open hF7).bag;refine (bagS_send' w6.drew F8 gh 25 s2 H1.bag p (Rep.ext hF8 hx6)).mono ?_;rintro e w7 ⟨rfl, hq7⟩;have M7 := lh (hm7 _ _ (hm8 _ _ (Moved.ahead hx6 hq7)));clear hF7 hm7 hF8 hm8 hq7;refine hK.out _ _ M7.out.blk (fun hHeld => ?_);clear hK K;try simp only [pS]
          refine tD ?_;clear hHeld hz5;go_wp2
          go_roundw
          case rel => exact ⟨1, by go_num, by omega, by rw [HBU.out], by rw [HUP.out, HE.out]; exact M7.out.left⟩
          case measure => simp [intOf]
        | false =>
          have hoo : (H1.G 0).isOpen = false := by rw [hGG]; exact ho
          have HE := lh (hSend1_shut hoo);have HP := lh (gSend_shut hoo);have HBU := lh (show busyUpto (hDrain (hRound h k)) 1 = busyUpto (hDrain (hRound h k)) 0 by rw [hbu, ho, Bool.or_false]);clear hbu ho hoo hGG;go_wp2_with fail
          refine (guestS_send' wr Fs gh 1 s _ HFS.out).mono ?_;unfold SendGuest;rw [HP.out];rintro e w5 ⟨rfl, hx5⟩;have M5 := lh ((HM4.out.behind hx5).behind ((Touch.refl _ w5).alloc (.cells Packet.zero.cells 103)));clear hx5;go_wp2
          go_roundw
          case rel => exact ⟨1, by go_num, by omega, by rw [HBU.out], by rw [HUP.out, HE.out]; exact M5.out⟩
          case measure => simp [intOf]
       ·have hbu : busyUpto (hDrain (hRound h k)) 2 = (busyUpto (hDrain (hRound h k)) 1 || ((hDrain (hRound h k)).G 1).isOpen) := rfl;obtain ⟨F2, hF2, hm2⟩ := HM4.out.opened;obtain ⟨s, Fs, hFs, _⟩ := (house_open hF2).g1;have HFS := lh hFs;have hGG := hSendUpto_G (hDrain (hRound h k)) 1;have HUP := lh (show hSendUpto (hDrain (hRound h k)) 2 = hSend1 (hSendUpto (hDrain (hRound h k)) 1) 1 from rfl);generalize hSendUpto (hDrain (hRound h k)) 1 = H1 at *;clear hF2 hm2 hFs;cases ho : ((hDrain (hRound h k)).G 1).isOpen with
        | true =>
          have hoo : (H1.G 1).isOpen = true := by rw [hGG]; exact ho
          obtain ⟨p, hp⟩ := gSend_open hoo;have HE := lh (hSend1_bagged (by decide) hoo hp);have HBU := lh (show busyUpto (hDrain (hRound h k)) 2 = true by rw [hbu, ho, Bool.or_true]);have HP := lh hp;clear hbu ho hoo hp hGG;go_wp2_with fail
          refine (guestS_send' wr Fs gh 9 s _ HFS.out).mono ?_;unfold SendGuest;rw [HP.out];rintro e w5 ⟨rfl, hx5⟩;have M5 := lh ((HM4.out.behind hx5).box p.cells 103);have hz5 := M5.out.blk;clear hx5;go_wp2_with fail
          generalize w5.alloc (.cells p.cells 103) = w6 at M5 hz5 ⊢;generalize w5.heap.size = bz at M5 hz5 ⊢;refine wp_region_held_drew (S := fun w' => w'.heap[bz]? = some (.cells p.cells 103 (0, 0))) (by kernel_rfl) hz5 (fun hHeld => ?_);refine tK 0 ?_;try simp only [pS]
          refine tK 1 ?_;try simp only [pS]
          refine tK 2 ?_;try simp only [pS]
          refine tK 3 ?_;try simp only [pS]
          refine tC 4 fun K hK => ?_;go_simp;go_at_call 69
          have hx6 : Ext w6 w6.drew := Touch.drew (Touch.refl _ w6);obtain ⟨F7, hF7, hm7⟩ := M5.out.fstM;obtain ⟨s2, F8, hF8, hm8⟩ := (house_open hF7).bag;refine (bagS_send' w6.drew F8 gh 25 s2 H1.bag p (Rep.ext hF8 hx6)).mono ?_;rintro e w7 ⟨rfl, hq7⟩;have M7 := lh (hm7 _ _ (hm8 _ _ (Moved.ahead hx6 hq7)));clear hF7 hm7 hF8 hm8 hq7;refine hK.out _ _ M7.out.blk (fun hHeld => ?_);clear hK K;try simp only [pS]
          refine tD ?_;clear hHeld hz5;go_wp2
          go_roundw
          case rel => exact ⟨2, by go_num, by omega, by rw [HBU.out], by rw [HUP.out, HE.out]; exact M7.out.left⟩
          case measure => simp [intOf]
        | false =>
          have hoo : (H1.G 1).isOpen = false := by rw [hGG]; exact ho
          have HE := lh (hSend1_shut hoo);have HP := lh (gSend_shut hoo);have HBU := lh (show busyUpto (hDrain (hRound h k)) 2 = busyUpto (hDrain (hRound h k)) 1 by rw [hbu, ho, Bool.or_false]);clear hbu ho hoo hGG;go_wp2_with fail
          refine (guestS_send' wr Fs gh 9 s _ HFS.out).mono ?_;unfold SendGuest;rw [HP.out];rintro e w5 ⟨rfl, hx5⟩;have M5 := lh ((HM4.out.behind hx5).behind ((Touch.refl _ w5).alloc (.cells Packet.zero.cells 103)));clear hx5;go_wp2
          go_roundw
          case rel => exact ⟨2, by go_num, by omega, by rw [HBU.out], by rw [HUP.out, HE.out]; exact M5.out⟩
          case measure => simp [intOf]
       ·have hbu : busyUpto (hDrain (hRound h k)) 3 = (busyUpto (hDrain (hRound h k)) 2 || ((hDrain (hRound h k)).G 2).isOpen) := rfl;obtain ⟨F2, hF2, hm2⟩ := HM4.out.opened;obtain ⟨s, Fs, hFs, _⟩ := (house_open hF2).g2;have HFS := lh hFs;have hGG := hSendUpto_G (hDrain (hRound h k)) 2;have HUP := lh (show hSendUpto (hDrain (hRound h k)) 3 = hSend1 (hSendUpto (hDrain (hRound h k)) 2) 2 from rfl);generalize hSendUpto (hDrain (hRound h k)) 2 = H1 at *;clear hF2 hm2 hFs;cases ho : ((hDrain (hRound h k)).G 2).isOpen with
        | true =>
          have hoo : (H1.G 2).isOpen = true := by rw [hGG]; exact ho
          obtain ⟨p, hp⟩ := gSend_open hoo;have HE := lh (hSend1_bagged (by decide) hoo hp);have HBU := lh (show busyUpto (hDrain (hRound h k)) 3 = true by rw [hbu, ho, Bool.or_true]);have HP := lh hp;clear hbu ho hoo hp hGG;go_wp2_with fail
          refine (guestS_send' wr Fs gh 17 s _ HFS.out).mono ?_;unfold SendGuest;rw [HP.out];rintro e w5 ⟨rfl, hx5⟩;have M5 := lh ((HM4.out.behind hx5).box p.cells 103);have hz5 := M5.out.blk;clear hx5;go_wp2_with fail
          generalize w5.alloc (.cells p.cells 103) = w6 at M5 hz5 ⊢;generalize w5.heap.size = bz at M5 hz5 ⊢;refine wp_region_held_drew (S := fun w' => w'.heap[bz]? = some (.cells p.cells 103 (0, 0))) (by kernel_rfl) hz5 (fun hHeld => ?_);refine tK 0 ?_;try simp only [pS]
          refine tK 1 ?_;try simp only [pS]
          refine tK 2 ?_;try simp only [pS]
          refine tK 3 ?_;try simp only [pS]
          refine tC 4 fun K hK => ?_;go_simp;go_at_call 69
          have hx6 : Ext w6 w6.drew := Touch.drew (Touch.refl _ w6);obtain ⟨F7, hF7, hm7⟩ := M5.out.fstM;obtain ⟨s2, F8, hF8, hm8⟩ := (house_open hF7).bag;refine (bagS_send' w6.drew F8 gh 25 s2 H1.bag p (Rep.ext hF8 hx6)).mono ?_;rintro e w7 ⟨rfl, hq7⟩;have M7 := lh (hm7 _ _ (hm8 _ _ (Moved.ahead hx6 hq7)));clear hF7 hm7 hF8 hm8 hq7;refine hK.out _ _ M7.out.blk (fun hHeld => ?_);clear hK K;try simp only [pS]
          refine tD ?_;clear hHeld hz5;go_wp2
          go_roundw
          case rel => exact ⟨3, by go_num, by omega, by rw [HBU.out], by rw [HUP.out, HE.out]; exact M7.out.left⟩
          case measure => simp [intOf]
        | false =>
          have hoo : (H1.G 2).isOpen = false := by rw [hGG]; exact ho
          have HE := lh (hSend1_shut hoo);have HP := lh (gSend_shut hoo);have HBU := lh (show busyUpto (hDrain (hRound h k)) 3 = busyUpto (hDrain (hRound h k)) 2 by rw [hbu, ho, Bool.or_false]);clear hbu ho hoo hGG;go_wp2_with fail
          refine (guestS_send' wr Fs gh 17 s _ HFS.out).mono ?_;unfold SendGuest;rw [HP.out];rintro e w5 ⟨rfl, hx5⟩;have M5 := lh ((HM4.out.behind hx5).behind ((Touch.refl _ w5).alloc (.cells Packet.zero.cells 103)));clear hx5;go_wp2
          go_roundw
          case rel => exact ⟨3, by go_num, by omega, by rw [HBU.out], by rw [HUP.out, HE.out]; exact M5.out⟩
          case measure => simp [intOf]
    ·have hl0 : (0 : Int) < (h'.bag.length : Int) := by
      have : h'.bag.length ≠ 0 := fun e => hb (List.eq_nil_of_length_eq_zero e);omega
     have HB := lh hb;have hty := pTake_yes hb 0;clear hb;go_wp2_with fail
     refine (bagS_take' wr Fp gh 25 s2 h'.bag 0 HFP.out HOK1.out.bag).mono ?_;rintro e w3 ⟨rfl, hq3⟩;have M3 := lh ((HM2.out _ _ (HMP.out _ _ hq3)).box (pTake h'.bag 0).1.cells 103);have HW := lh (hDrain1_weigh HB.out);have HD1 := lh (show hDrain (hDrain1 h') = hDrain (hRound h k) from (hDrain_step HB.out).symm.trans HD.out);have HOK2 := lh (hDrain1_ok HOK1.out HB.out);have HFI := lh (hTook_fits HOK1.out.fits 0);have HST := lh (HOK1.out.packet_str (HOK1.out.packets _ (pTake_took 0 HB.out)));have HDE := lh (show hDrain1 h' = hCome (hTook h' 0) (pTake h'.bag 0).1 from rfl);rw [hty];clear hq3 hty hc25 hl0 HM HM2 HMP HFP HD;generalize (pTake h'.bag 0).1 = p at *;have hb3 : (w3.alloc (.cells p.cells 103)).heap[w3.heap.size]? = some (.cells p.cells 103 (0, 0)) := heap_alloc_new _ _;go_wp2_with fail
     clear hb3;obtain ⟨F5, hF5, hm5⟩ := M3.out.fstM;refine (house_come _ gh F5 (hTook h' 0) p hF5 HFI.out.log HFI.out.done HST.out).mono ?_;rintro e w5 ⟨rfl, hq5⟩;have m5 := hm5 _ _ hq5;rw [<- HDE.out] at m5;have M5 := lh m5.left;clear hF5 hm5 hq5 m5 M3;go_wp2
     go_roundg (weigh (hDrain1 h').bag)
     case measure => rw [<- HN.out]; exact HW.out
     case rel => exact ⟨hDrain1 h', rfl, HOK2.out, HD1.out, M5.out⟩
  ·obtain rfl : k = 3 := by omega
   have HE := lh (hCalm_loud HBZ.out);go_wp2
   go_ret
   rw [HE.out];exact ⟨rfl, HM.out⟩
abbrev vNil : Value := .slice none 0 0
theorem add_owned {α : Type} [Lies α] {X : Type} {R : Rep X} {W w : World} {x : X} (E : TypeId) (h : Has R W w x) : Has (R.and (repOwn (α := α) E)) W w (x, (vNil, [])) :=
 h.beside (G := fun k => (vNil).ownBlock = some k) (S := repOwn (α := α) E) (y := (vNil, [])) (Touch.refl _ w) ⟨fun _ => Iff.rfl, Owns.nil _ _⟩ (fun k hk => by simp [Value.ownBlock] at hk)
abbrev cellsN (a b c : Int) : Array Value := #[vNil] ++ (gNew a).cells vNil ++ (gNew b).cells vNil ++ (gNew c).cells vNil ++ #[vNil]
def NewHouse (W : World) (e : Ending) (w' : World) : Prop := ∃ gh, e = .returned (.pointer (some ⟨gh, 0, none⟩)) /\ Has (repHouse gh) W w' hNew
theorem house_made {W w : World} {gh : Nat} (h : Has (repNone.and (BH gh)) W w ((), cellsN 0 1 2)) : Has (repHouse gh) W w hNew := by
 have h1 := add_owned (α := Packet) 103 (add_owned (α := Record) 112 (add_owned (α := Record) 112 (add_owned (α := Record) 112 (add_owned (α := Record) 112 h.right))));exact h1.map fun F hF => ⟨vNil, vNil, vNil, vNil, vNil, hF⟩
def NHRel (W : World) (gh : Nat) (i : Value) (wr : World) : Prop :=
 (i = .int .i64 0 /\ Has (repNone.and (BH gh)) W wr ((), cellsN 0 0 0)) \/ (i = .int .i64 1 /\ Has (repNone.and (BH gh)) W wr ((), cellsN 0 0 0)) \/
 (i = .int .i64 2 /\ Has (repNone.and (BH gh)) W wr ((), cellsN 0 1 0)) \/ (i = .int .i64 3 /\ Has (repNone.and (BH gh)) W wr ((), cellsN 0 1 2))
theorem house_new (W : World) : Calls Tryz.prog 12 #[] W (NewHouse W) := by
 go_enter Tryz.func12, Tryz.ntmps12
 go_wp2_with fail
 have H1 := lh ((Has.none W).box (cellsN 0 0 0) 73);change Code.wp Tryz.prog _ _ _ (W.alloc (.cells (cellsN 0 0 0) 73));generalize W.alloc (.cells (cellsN 0 0 0) 73) = w3 at H1 ⊢;generalize W.heap.size = gh at H1 ⊢;go_loopw [2] (fun i wr => NHRel W gh i wr) (fun i _ => 3 - (intOf i).toNat)
 case atStart => exact .inl ⟨rfl, H1.out⟩
 case round =>
  clear H1;rcases hrel with ⟨rfl, hz⟩ | ⟨rfl, hz⟩ | ⟨rfl, hz⟩ | ⟨rfl, hz⟩
  ·have HZ := lh hz;have hb := hz.blk;have hb3 := setCell_heap hb 1 (.int .i64 0);have HZ3 := lh (HZ.out.turn ((Touch.refl (fun k => k = gh) wr).setCell (a := ⟨gh, 1, none⟩) (.inl rfl) _) hb3);have hc := cell_of hb 1;have hf := frozen_of hb 1;clear hz hb3;go_wp2
   go_roundw
   case rel => exact .inr (.inl ⟨rfl, HZ3.out⟩)
   case measure => simp [intOf]
  ·have HZ := lh hz;have hb := hz.blk;have hb3 := setCell_heap hb 9 (.int .i64 1);have HZ3 := lh (HZ.out.turn ((Touch.refl (fun k => k = gh) wr).setCell (a := ⟨gh, 9, none⟩) (.inl rfl) _) hb3);have hc := cell_of hb 9;have hf := frozen_of hb 9;clear hz hb3;go_wp2
   go_roundw
   case rel => exact .inr (.inr (.inl ⟨rfl, HZ3.out⟩))
   case measure => simp [intOf]
  ·have HZ := lh hz;have hb := hz.blk;have hb3 := setCell_heap hb 17 (.int .i64 2);have HZ3 := lh (HZ.out.turn ((Touch.refl (fun k => k = gh) wr).setCell (a := ⟨gh, 17, none⟩) (.inl rfl) _) hb3);have hc := cell_of hb 17;have hf := frozen_of hb 17;clear hz hb3;go_wp2
   go_roundw
   case rel => exact .inr (.inr (.inr ⟨rfl, HZ3.out⟩))
   case measure => simp [intOf]
  ·have HZ := lh hz;clear hz;go_wp2
   go_ret
   exact ⟨gh, rfl, house_made HZ.out⟩
end Go.Proofs.YtalfbhhldfffkaaGreatDoor
