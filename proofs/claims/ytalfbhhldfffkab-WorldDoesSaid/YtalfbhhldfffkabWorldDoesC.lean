/- WorldDoesC: the walk of WorldDoes's closure: a world and the document's house, side by side. -/
import Derived.Test.YtalfbhhldfffkabGWorldLaw
import Derived.Test.YtalfbhhldfffkabGHouseC
import Derived.Test.YtalfbhhldfffkabFilesUse
import Derived.Test.YtalfbhhldfffkabGDrawer
import Derived.Test.YtalfbhhldfffkabGStore
namespace Go.Proofs.Ytalfbhhldfffkab
open Go.RowKit

theorem names_both (L : List Record) : dNames (dbehind L) = (fbehind L).map (·.name) := (behind_srt L).names
theorem drawer_names_of (w : World) (L : List Record) (N : List ByteArray) {A : Option Addr} {c : Nat} (h : Owns w 120 (.slice A (dbehind L).length c) (dbehind L)) (hN : (fbehind L).map (·.name) = N) :
    Calls Try.prog 25 #[.slice A (dbehind L).length c] w (NewList w 9 N) := by
  have hl : (dbehind L).length ≤ 6 := (behind_dok L).len
  rw [← hN, ← names_both]
  exact drawer_names w A c (dbehind L) h.reads (by omega)
structure HouseSaid (w : World) (gh : Nat) (h : House) : Prop where
  g0 : ∃ A c, (∀ w', Ext w w' → w'.cell? ⟨gh, 7, none⟩ = some (.bool (h.G 0).isOpen) ∧ w'.cell? ⟨gh, 8, none⟩ = some (.slice A (h.G 0).done.length c)) ∧ Reads w w.heap.size A (h.G 0).done
  g1 : ∃ A c, (∀ w', Ext w w' → w'.cell? ⟨gh, 15, none⟩ = some (.bool (h.G 1).isOpen) ∧ w'.cell? ⟨gh, 16, none⟩ = some (.slice A (h.G 1).done.length c)) ∧ Reads w w.heap.size A (h.G 1).done
  g2 : ∃ A c, (∀ w', Ext w w' → w'.cell? ⟨gh, 23, none⟩ = some (.bool (h.G 2).isOpen) ∧ w'.cell? ⟨gh, 24, none⟩ = some (.slice A (h.G 2).done.length c)) ∧ Reads w w.heap.size A (h.G 2).done
  chest : ∃ A c, (∀ w', Ext w w' → w'.cell? ⟨gh, 0, none⟩ = some (.slice A h.S.length c)) ∧ Reads w w.heap.size A h.S
  bag : ∃ A c, (∀ w', Ext w w' → w'.cell? ⟨gh, 25, none⟩ = some (.slice A h.bag.length c)) ∧ Reads w w.heap.size A h.bag
theorem house_said {w : World} {gh : Nat} {F : Nat → Prop} {h : House} (hh : (repHouse gh).on w F h) : HouseSaid w gh h := by
  obtain ⟨vs, v0, v1, v2, vb, h5⟩ := hh
  obtain ⟨F4, h4, _⟩ := Rep.fst h5
  obtain ⟨F3, h3, _⟩ := Rep.fst h4
  obtain ⟨F2, h2, _⟩ := Rep.fst h3
  obtain ⟨F1, h1, _⟩ := Rep.fst h2
  obtain ⟨F0, h0, _⟩ := Rep.fst h1
  obtain ⟨_, os, _⟩ := Rep.snd h1
  obtain ⟨_, o0, _⟩ := Rep.snd h2
  obtain ⟨_, o1, _⟩ := Rep.snd h3
  obtain ⟨_, o2, _⟩ := Rep.snd h4
  obtain ⟨_, ob, _⟩ := Rep.snd h5
  have hb := h0.2
  have os := (show Owns w 49 vs h.S from os.2)
  have o0 := (show Owns w 49 v0 (h.G 0).done from o0.2)
  have o1 := (show Owns w 49 v1 (h.G 1).done from o1.2)
  have o2 := (show Owns w 49 v2 (h.G 2).done from o2.2)
  have ob := (show Owns w 131 vb h.bag from ob.2)
  replace hb := (show w.heap[gh]? = some (.cells (hCells vs v0 v1 v2 vb h.G) 89 (0, 0)) from hb)
  clear h0 h1 h2 h3 h4 h5
  obtain ⟨As, cs, rfl, _⟩ := os.form
  obtain ⟨A0, c0, rfl, _⟩ := o0.form
  obtain ⟨A1, c1, rfl, _⟩ := o1.form
  obtain ⟨A2, c2, rfl, _⟩ := o2.form
  obtain ⟨Ab, cb, rfl, _⟩ := ob.form
  have hc : ∀ w', Ext w w' → ∀ j, w'.cell? ⟨gh, j, none⟩ = (hCells (.slice As h.S.length cs) (.slice A0 (h.G 0).done.length c0) (.slice A1 (h.G 1).done.length c1) (.slice A2 (h.G 2).done.length c2) (.slice Ab h.bag.length cb) h.G)[j]? := fun w' hx j => cell_of (hx.blk hb id) j
  exact ⟨⟨A0, c0, fun w' hx => ⟨(hc w' hx 7).trans (by simp [hCells, Guest.cells]), (hc w' hx 8).trans (by simp [hCells, Guest.cells])⟩, o0.reads⟩,
    ⟨A1, c1, fun w' hx => ⟨(hc w' hx 15).trans (by simp [hCells, Guest.cells]), (hc w' hx 16).trans (by simp [hCells, Guest.cells])⟩, o1.reads⟩,
    ⟨A2, c2, fun w' hx => ⟨(hc w' hx 23).trans (by simp [hCells, Guest.cells]), (hc w' hx 24).trans (by simp [hCells, Guest.cells])⟩, o2.reads⟩,
    ⟨As, cs, fun w' hx => (hc w' hx 0).trans (by simp [hCells, Guest.cells]), os.reads⟩,
    ⟨Ab, cb, fun w' hx => (hc w' hx 25).trans (by simp [hCells, Guest.cells]), ob.reads⟩⟩
theorem chestS_bytes' (w : World) (g o : Nat) (s : Slot o) (F : Nat → Prop) (L : List Record) (h : (repChestS g o s).on w F L) (hok : ∀ r ∈ L, RecOk r) (hlen : (logBytes L).length ≤ 10000) :
    Calls Try.prog 28 #[.pointer (some ⟨g, o, none⟩)] w (NewList w 5 (logBytes L)) := by
  obtain ⟨v, _, hh⟩ := h
  exact chestS_bytes w g o s v L hh hok hlen
theorem recs_yes (w : World) (B : Nat) (A A' : Option Addr) (l : List Record) (c c' : Nat) (hl : Reads w B A l) (hr : Reads w B A' l) (hm : l.length < 1000000) :
    Calls Try.prog 43 #[.slice A l.length c, .slice A' l.length c'] w fun e w' => e = .returned (.bool true) ∧ Ext w w' :=
  (sameRecords w B A A' l l c c' hl hr hm (by omega)).mono fun e w' ⟨he, n, hn⟩ => ⟨by rw [he]; simp, by rw [hn]; exact (Touch.refl _ _).drewN _⟩
theorem packs_yes (w : World) (B : Nat) (A A' : Option Addr) (l : List Packet) (c c' : Nat) (hl : Reads w B A l) (hr : Reads w B A' l) (hm : l.length ≤ 40) :
    Calls Try.prog 45 #[.slice A l.length c, .slice A' l.length c'] w fun e w' => e = .returned (.bool true) ∧ Ext w w' :=
  (samePackets w B A A' l l c c' hl hr (by omega) (by omega)).mono fun e w' ⟨he, n, hn⟩ => ⟨by rw [he]; simp, by rw [hn]; exact (Touch.refl _ _).drewN _⟩
def SameRel (w : World) (n : Value) (wr : World) : Prop := ∃ k : Nat, n = .int .i64 ((k : Int) - 1) ∧ k ≤ 5 ∧ Ext w wr
set_option maxHeartbeats 8000000 in
set_option maxRecDepth 100000 in
theorem same_calls (w : World) (gw gh aw ah : Nat) (F G : Nat → Prop) (h : House) (fr : Nat → Nat) (hF : (repWorld gw).on w F h) (hG : (repHouse gh).on w G h) (hok : HouseOk h fr)
    (haw : w.heap[aw]? = some (.cells #[.pointer (some ⟨gw, 0, none⟩)] 77 (0, 0))) (hah : w.heap[ah]? = some (.cells #[.pointer (some ⟨gh, 0, none⟩)] 79 (0, 0))) :
    Calls Try.prog 40 #[.pointer (some ⟨aw, 0, none⟩), .pointer (some ⟨ah, 0, none⟩)] w fun e w' => e = .returned (.bool true) ∧ Ext w w' := by
  have HF := Lib.hid hF
  have HG := Lib.hid hG
  have HOK := Lib.hid hok
  have HSAID := Lib.hid (house_said hG)
  have HAW := Lib.hid (show ∀ w', Ext w w' → w'.cell? ⟨aw, 0, none⟩ = some (.pointer (some ⟨gw, 0, none⟩)) from fun w' hx => cell_of (hx.blk haw id) 0)
  have HAH := Lib.hid (show ∀ w', Ext w w' → w'.cell? ⟨ah, 0, none⟩ = some (.pointer (some ⟨gh, 0, none⟩)) from fun w' hx => cell_of (hx.blk hah id) 0)
  clear hF hG hok haw hah
  go_enter Try.func40, Try.ntmps40
  go_wp2_with fail
  go_loopw [3] (fun n wr => SameRel w n wr) (fun n _ => (4 - intOf n).toNat)
  case atStart => exact ⟨0, rfl, by omega, Touch.refl _ _⟩
  case round =>
    obtain ⟨k, rfl, hk, hx⟩ := hrel
    have haw := HAW.out _ hx
    have hah := HAH.out _ hx
    obtain rfl | rfl | rfl | rfl | rfl | rfl : k = 0 ∨ k = 1 ∨ k = 2 ∨ k = 3 ∨ k = 4 ∨ k = 5 := by omega
    · go_wp2_with fail
      refine (world_client_no wr gw (-1) (by decide)).mono ?_
      rintro e w' ⟨rfl, rfl⟩
      go_wp2
      go_roundw
      case rel => exact ⟨1, by go_num, by omega, hx⟩
      case measure => simp [intOf]
    · have HX := Lib.hid hx
      obtain ⟨gc, Fc, hFc, hcl⟩ := world_cl (Rep.ext HF.out hx) 0 (by decide)
      have HFC := Lib.hid hFc
      obtain ⟨A0, cq, hc0, hr0⟩ := HSAID.out.g0
      have HC := Lib.hid hc0
      have HRD := Lib.hid hr0
      have hdl := HOK.out.fits.done 0 (by decide)
      clear hFc hc0 hr0 hx
      go_wp2_with fail
      refine hcl.mono ?_
      rintro e w' ⟨rfl, rfl⟩
      clear hcl
      go_wp2_with fail
      refine wp_region_held_drew (S := fun w' => Ext wr w') (by kernel_rfl) (Touch.drew (Touch.refl _ wr)) (fun hHeld => ?_)
      refine wpAnyH_take (i := 0) (v := ?_) (gT rfl) (by kernel_rfl) (by kernel_rfl) (by kernel_rfl) (fun _ _ _ h => h) (Or.inl ⟨by rfl, ?_⟩) (by assumption) ?_
      rotate_left
      · intro w' hw'
        try dsimp only at hw'
        go_simp
        try with_reducible rfl
      try simp only [Act.put, aS, a0, a1]
      refine wpAnyH_take (i := 1) (v := ?_) (gT rfl) (by kernel_rfl) (by kernel_rfl) (by kernel_rfl) (fun _ _ _ h => h) (Or.inl ⟨by rfl, ?_⟩) (by assumption) ?_
      rotate_left
      · intro w' hw'
        try dsimp only at hw'
        go_simp
        try with_reducible rfl
      try simp only [Act.put, aS, a0, a1]
      refine wpAnyH_take (i := 2) (v := ?_) (gT rfl) (by kernel_rfl) (by kernel_rfl) (by kernel_rfl) (fun _ _ _ h => h) (Or.inl ⟨by rfl, ?_⟩) (by assumption) ?_
      rotate_left
      · intro w' hw'
        try dsimp only at hw'
        go_simp
        try with_reducible rfl
      try simp only [Act.put, aS, a0, a1]
      refine wpAnyH_take (i := 3) (v := ?_) (gT rfl) (by kernel_rfl) (by kernel_rfl) (by kernel_rfl) (fun _ _ _ h => h) (Or.inl ⟨by rfl, ?_⟩) (by assumption) ?_
      rotate_left
      · intro w' hw'
        try dsimp only at hw'
        go_simp
        try with_reducible rfl
      try simp only [Act.put, aS, a0, a1]
      refine wpAnyH_take (i := 5) (v := ?_) (gT rfl) (by kernel_rfl) (by kernel_rfl) (by kernel_rfl) (fun _ _ _ h => h) (Or.inl ⟨by rfl, ?_⟩) (by assumption) ?_
      rotate_left
      · intro w' hw'
        try dsimp only at hw'
        have hch := HAH.out w' (HX.out.trans hw')
        go_simp
        try with_reducible rfl
      try simp only [Act.put, aS, a0, a1]
      refine wpAnyH_take (i := 6) (v := ?_) (gT rfl) (by kernel_rfl) (by kernel_rfl) (by kernel_rfl) (fun _ _ _ h => h) (Or.inl ⟨by rfl, ?_⟩) (by assumption) ?_
      rotate_left
      · intro w' hw'
        try dsimp only at hw'
        go_simp
        try with_reducible rfl
      try simp only [Act.put, aS, a0, a1]
      refine wpAnyH_take (i := 7) (v := ?_) (gT rfl) (by kernel_rfl) (by kernel_rfl) (by kernel_rfl) (fun _ _ _ h => h) (Or.inl ⟨by rfl, ?_⟩) (by assumption) ?_
      rotate_left
      · intro w' hw'
        try dsimp only at hw'
        go_simp
        try with_reducible rfl
      try simp only [Act.put, aS, a0, a1]
      refine wpAnyH_take (i := 8) (v := ?_) (gT rfl) (by kernel_rfl) (by kernel_rfl) (by kernel_rfl) (fun _ _ _ h => h) (Or.inl ⟨by rfl, ?_⟩) (by assumption) ?_
      rotate_left
      · intro w' hw'
        try dsimp only at hw'
        go_simp
        try with_reducible rfl
      try simp only [Act.put, aS, a0, a1]
      refine wpAnyH_take (i := 9) (v := ?_) (gT rfl) (by kernel_rfl) (by kernel_rfl) (by kernel_rfl) (fun _ _ _ h => h) (Or.inl ⟨by rfl, ?_⟩) (by assumption) ?_
      rotate_left
      · intro w' hw'
        try dsimp only at hw'
        go_simp
        try with_reducible rfl
      try simp only [Act.put, aS, a0, a1]
      refine wpAnyH_take (i := 10) (v := ?_) (gT rfl) (by kernel_rfl) (by kernel_rfl) (by kernel_rfl) (fun _ _ _ h => h) (Or.inl ⟨by rfl, ?_⟩) (by assumption) ?_
      rotate_left
      · intro w' hw'
        try dsimp only at hw'
        go_simp
        try with_reducible rfl
      try simp only [Act.put, aS, a0, a1]
      refine wpAnyH_take (i := 11) (v := ?_) (gT rfl) (by kernel_rfl) (by kernel_rfl) (by kernel_rfl) (fun _ _ _ h => h) (Or.inl ⟨by rfl, ?_⟩) (by assumption) ?_
      rotate_left
      · intro w' hw'
        try dsimp only at hw'
        have hco := (HC.out w' (HX.out.trans hw')).1
        go_simp
        try with_reducible rfl
      try simp only [Act.put, aS, a0, a1]
      refine wpAnyH_ready (rs := [4]) (by kernel_rfl) (by simp) ?_
      refine AllReadyH.cons (gT rfl) (fun K hK => ?_) AllReadyH.nil
      go_simp
      go_at_call 42
      have hx4 : Ext wr wr.drew := Touch.drew (Touch.refl _ wr)
      refine (client_open' _ Fc gc (h.G 0) (Rep.ext HFC.out hx4)).mono ?_
      rintro e w4 ⟨rfl, rfl⟩
      refine hK.out _ _ hx4 (fun hHeld => ?_)
      clear hK K
      try simp only [Act.put, aS, a0, a1]
      have hbn : ((h.G 0).isOpen != (h.G 0).isOpen) = false := by simp
      refine wpAnyH_take (i := 12) (v := ?_) (gT rfl) (by kernel_rfl) (by kernel_rfl) (by kernel_rfl) (fun _ _ _ h => h) (Or.inl ⟨by rfl, ?_⟩) (by assumption) ?_
      rotate_left
      · intro w' hw'
        try dsimp only at hw'
        go_simp
        try with_reducible rfl
      try simp only [Act.put, aS, a0, a1]
      refine wpAnyH_take (i := 13) (v := ?_) (gT rfl) (by kernel_rfl) (by kernel_rfl) (by kernel_rfl) (fun _ _ _ h => h) (Or.inl ⟨by rfl, ?_⟩) (by assumption) ?_
      rotate_left
      · intro w' hw'
        try dsimp only at hw'
        go_simp
        try with_reducible rfl
      try simp only [Act.put, aS, a0, a1]
      refine wpAnyH_take (i := 14) (v := ?_) (gT rfl) (by kernel_rfl) (by kernel_rfl) (by kernel_rfl) (fun _ _ _ h => h) (Or.inl ⟨by rfl, ?_⟩) (by assumption) ?_
      rotate_left
      · intro w' hw'
        try dsimp only at hw'
        go_simp
        try with_reducible rfl
      try simp only [Act.put, aS, a0, a1]
      refine wpAnyH_take (i := 15) (v := ?_) (gT rfl) (by kernel_rfl) (by kernel_rfl) (by kernel_rfl) (fun _ _ _ h => h) (Or.inl ⟨by rfl, ?_⟩) (by assumption) ?_
      rotate_left
      · intro w' hw'
        try dsimp only at hw'
        go_simp
        try with_reducible rfl
      try simp only [Act.put, aS, a0, a1]
      refine wpAnyH_take (i := 17) (v := ?_) (gT rfl) (by kernel_rfl) (by kernel_rfl) (by kernel_rfl) (fun _ _ _ h => h) (Or.inl ⟨by rfl, ?_⟩) (by assumption) ?_
      rotate_left
      · intro w' hw'
        try dsimp only at hw'
        have hch := HAH.out w' (HX.out.trans hw')
        go_simp
        try with_reducible rfl
      try simp only [Act.put, aS, a0, a1]
      refine wpAnyH_take (i := 18) (v := ?_) (gT rfl) (by kernel_rfl) (by kernel_rfl) (by kernel_rfl) (fun _ _ _ h => h) (Or.inl ⟨by rfl, ?_⟩) (by assumption) ?_
      rotate_left
      · intro w' hw'
        try dsimp only at hw'
        go_simp
        try with_reducible rfl
      try simp only [Act.put, aS, a0, a1]
      refine wpAnyH_take (i := 19) (v := ?_) (gT rfl) (by kernel_rfl) (by kernel_rfl) (by kernel_rfl) (fun _ _ _ h => h) (Or.inl ⟨by rfl, ?_⟩) (by assumption) ?_
      rotate_left
      · intro w' hw'
        try dsimp only at hw'
        go_simp
        try with_reducible rfl
      try simp only [Act.put, aS, a0, a1]
      refine wpAnyH_take (i := 20) (v := ?_) (gT rfl) (by kernel_rfl) (by kernel_rfl) (by kernel_rfl) (fun _ _ _ h => h) (Or.inl ⟨by rfl, ?_⟩) (by assumption) ?_
      rotate_left
      · intro w' hw'
        try dsimp only at hw'
        go_simp
        try with_reducible rfl
      try simp only [Act.put, aS, a0, a1]
      refine wpAnyH_take (i := 21) (v := ?_) (gT rfl) (by kernel_rfl) (by kernel_rfl) (by kernel_rfl) (fun _ _ _ h => h) (Or.inl ⟨by rfl, ?_⟩) (by assumption) ?_
      rotate_left
      · intro w' hw'
        try dsimp only at hw'
        go_simp
        try with_reducible rfl
      try simp only [Act.put, aS, a0, a1]
      refine wpAnyH_take (i := 22) (v := ?_) (gT rfl) (by kernel_rfl) (by kernel_rfl) (by kernel_rfl) (fun _ _ _ h => h) (Or.inl ⟨by rfl, ?_⟩) (by assumption) ?_
      rotate_left
      · intro w' hw'
        try dsimp only at hw'
        go_simp
        try with_reducible rfl
      try simp only [Act.put, aS, a0, a1]
      refine wpAnyH_take (i := 23) (v := ?_) (gT rfl) (by kernel_rfl) (by kernel_rfl) (by kernel_rfl) (fun _ _ _ h => h) (Or.inl ⟨by rfl, ?_⟩) (by assumption) ?_
      rotate_left
      · intro w' hw'
        try dsimp only at hw'
        have hco := (HC.out w' (HX.out.trans hw')).2
        go_simp
        try with_reducible rfl
      try simp only [Act.put, aS, a0, a1]
      refine wpAnyH_ready (rs := [16]) (by kernel_rfl) (by simp) ?_
      refine AllReadyH.cons (gT rfl) (fun K hK => ?_) AllReadyH.nil
      go_simp
      go_at_call 44
      refine (client_done' _ Fc gc (h.G 0) (Rep.ext HFC.out hx4) (by omega)).mono ?_
      rintro e w16 ⟨A16, c16, rfl, ho16, hx16', _⟩
      have hx16 := hx4.trans hx16'
      have HO16 := Lib.hid ho16
      clear ho16 hx16' hx4 hHeld
      refine hK.out _ _ hx16 (fun hHeld => ?_)
      clear hK K
      try simp only [Act.put, aS, a0, a1]
      refine wpAnyH_ready (rs := [24]) (by kernel_rfl) (by simp) ?_
      refine AllReadyH.cons (gT rfl) (fun K hK => ?_) AllReadyH.nil
      go_simp
      go_at_call 43
      refine (recs_yes w16 w16.heap.size _ _ (h.G 0).done _ _ HO16.out.reads (HRD.out.ext (HX.out.trans hx16)) (by omega)).mono ?_
      rintro e w24 ⟨rfl, hx24'⟩
      have hx24 := hx16.trans hx24'
      clear hx24' hx16 hHeld
      refine hK.out _ _ hx24 (fun hHeld => ?_)
      clear hK K
      try simp only [Act.put, aS, a0, a1]
      refine wpAnyH_take (i := 25) (v := ?_) (gT rfl) (by kernel_rfl) (by kernel_rfl) (by kernel_rfl) (fun _ _ _ h => h) (Or.inl ⟨by rfl, ?_⟩) (by assumption) ?_
      rotate_left
      · intro w' hw'
        try dsimp only at hw'
        go_simp
        try with_reducible rfl
      try simp only [Act.put, aS, a0, a1]
      refine wpAnyH_take (i := 26) (v := ?_) (gT rfl) (by kernel_rfl) (by kernel_rfl) (by kernel_rfl) (fun _ _ _ h => h) (Or.inl ⟨by rfl, ?_⟩) (by assumption) ?_
      rotate_left
      · intro w' hw'
        try dsimp only at hw'
        go_simp
        try with_reducible rfl
      try simp only [Act.put, aS, a0, a1]
      refine wpAnyH_done (by kernel_rfl) ?_ _
      clear hHeld
      go_wp2
      go_roundw
      case rel => exact ⟨2, by go_num, by omega, HX.out.trans hx24⟩
      case measure => simp [intOf]
    · have HX := Lib.hid hx
      obtain ⟨gc, Fc, hFc, hcl⟩ := world_cl (Rep.ext HF.out hx) 1 (by decide)
      have HFC := Lib.hid hFc
      obtain ⟨A1, cq, hc1, hr1⟩ := HSAID.out.g1
      have HC := Lib.hid hc1
      have HRD := Lib.hid hr1
      have hdl := HOK.out.fits.done 1 (by decide)
      clear hFc hc1 hr1 hx
      go_wp2_with fail
      refine hcl.mono ?_
      rintro e w' ⟨rfl, rfl⟩
      clear hcl
      go_wp2_with fail
      refine wp_region_held_drew (S := fun w' => Ext wr w') (by kernel_rfl) (Touch.drew (Touch.refl _ wr)) (fun hHeld => ?_)
      refine wpAnyH_take (i := 0) (v := ?_) (gT rfl) (by kernel_rfl) (by kernel_rfl) (by kernel_rfl) (fun _ _ _ h => h) (Or.inl ⟨by rfl, ?_⟩) (by assumption) ?_
      rotate_left
      · intro w' hw'
        try dsimp only at hw'
        go_simp
        try with_reducible rfl
      try simp only [Act.put, aS, a0, a1]
      refine wpAnyH_take (i := 1) (v := ?_) (gT rfl) (by kernel_rfl) (by kernel_rfl) (by kernel_rfl) (fun _ _ _ h => h) (Or.inl ⟨by rfl, ?_⟩) (by assumption) ?_
      rotate_left
      · intro w' hw'
        try dsimp only at hw'
        go_simp
        try with_reducible rfl
      try simp only [Act.put, aS, a0, a1]
      refine wpAnyH_take (i := 2) (v := ?_) (gT rfl) (by kernel_rfl) (by kernel_rfl) (by kernel_rfl) (fun _ _ _ h => h) (Or.inl ⟨by rfl, ?_⟩) (by assumption) ?_
      rotate_left
      · intro w' hw'
        try dsimp only at hw'
        go_simp
        try with_reducible rfl
      try simp only [Act.put, aS, a0, a1]
      refine wpAnyH_take (i := 3) (v := ?_) (gT rfl) (by kernel_rfl) (by kernel_rfl) (by kernel_rfl) (fun _ _ _ h => h) (Or.inl ⟨by rfl, ?_⟩) (by assumption) ?_
      rotate_left
      · intro w' hw'
        try dsimp only at hw'
        go_simp
        try with_reducible rfl
      try simp only [Act.put, aS, a0, a1]
      refine wpAnyH_take (i := 5) (v := ?_) (gT rfl) (by kernel_rfl) (by kernel_rfl) (by kernel_rfl) (fun _ _ _ h => h) (Or.inl ⟨by rfl, ?_⟩) (by assumption) ?_
      rotate_left
      · intro w' hw'
        try dsimp only at hw'
        have hch := HAH.out w' (HX.out.trans hw')
        go_simp
        try with_reducible rfl
      try simp only [Act.put, aS, a0, a1]
      refine wpAnyH_take (i := 6) (v := ?_) (gT rfl) (by kernel_rfl) (by kernel_rfl) (by kernel_rfl) (fun _ _ _ h => h) (Or.inl ⟨by rfl, ?_⟩) (by assumption) ?_
      rotate_left
      · intro w' hw'
        try dsimp only at hw'
        go_simp
        try with_reducible rfl
      try simp only [Act.put, aS, a0, a1]
      refine wpAnyH_take (i := 7) (v := ?_) (gT rfl) (by kernel_rfl) (by kernel_rfl) (by kernel_rfl) (fun _ _ _ h => h) (Or.inl ⟨by rfl, ?_⟩) (by assumption) ?_
      rotate_left
      · intro w' hw'
        try dsimp only at hw'
        go_simp
        try with_reducible rfl
      try simp only [Act.put, aS, a0, a1]
      refine wpAnyH_take (i := 8) (v := ?_) (gT rfl) (by kernel_rfl) (by kernel_rfl) (by kernel_rfl) (fun _ _ _ h => h) (Or.inl ⟨by rfl, ?_⟩) (by assumption) ?_
      rotate_left
      · intro w' hw'
        try dsimp only at hw'
        go_simp
        try with_reducible rfl
      try simp only [Act.put, aS, a0, a1]
      refine wpAnyH_take (i := 9) (v := ?_) (gT rfl) (by kernel_rfl) (by kernel_rfl) (by kernel_rfl) (fun _ _ _ h => h) (Or.inl ⟨by rfl, ?_⟩) (by assumption) ?_
      rotate_left
      · intro w' hw'
        try dsimp only at hw'
        go_simp
        try with_reducible rfl
      try simp only [Act.put, aS, a0, a1]
      refine wpAnyH_take (i := 10) (v := ?_) (gT rfl) (by kernel_rfl) (by kernel_rfl) (by kernel_rfl) (fun _ _ _ h => h) (Or.inl ⟨by rfl, ?_⟩) (by assumption) ?_
      rotate_left
      · intro w' hw'
        try dsimp only at hw'
        go_simp
        try with_reducible rfl
      try simp only [Act.put, aS, a0, a1]
      refine wpAnyH_take (i := 11) (v := ?_) (gT rfl) (by kernel_rfl) (by kernel_rfl) (by kernel_rfl) (fun _ _ _ h => h) (Or.inl ⟨by rfl, ?_⟩) (by assumption) ?_
      rotate_left
      · intro w' hw'
        try dsimp only at hw'
        have hco := (HC.out w' (HX.out.trans hw')).1
        go_simp
        try with_reducible rfl
      try simp only [Act.put, aS, a0, a1]
      refine wpAnyH_ready (rs := [4]) (by kernel_rfl) (by simp) ?_
      refine AllReadyH.cons (gT rfl) (fun K hK => ?_) AllReadyH.nil
      go_simp
      go_at_call 42
      have hx4 : Ext wr wr.drew := Touch.drew (Touch.refl _ wr)
      refine (client_open' _ Fc gc (h.G 1) (Rep.ext HFC.out hx4)).mono ?_
      rintro e w4 ⟨rfl, rfl⟩
      refine hK.out _ _ hx4 (fun hHeld => ?_)
      clear hK K
      try simp only [Act.put, aS, a0, a1]
      have hbn : ((h.G 1).isOpen != (h.G 1).isOpen) = false := by simp
      refine wpAnyH_take (i := 12) (v := ?_) (gT rfl) (by kernel_rfl) (by kernel_rfl) (by kernel_rfl) (fun _ _ _ h => h) (Or.inl ⟨by rfl, ?_⟩) (by assumption) ?_
      rotate_left
      · intro w' hw'
        try dsimp only at hw'
        go_simp
        try with_reducible rfl
      try simp only [Act.put, aS, a0, a1]
      refine wpAnyH_take (i := 13) (v := ?_) (gT rfl) (by kernel_rfl) (by kernel_rfl) (by kernel_rfl) (fun _ _ _ h => h) (Or.inl ⟨by rfl, ?_⟩) (by assumption) ?_
      rotate_left
      · intro w' hw'
        try dsimp only at hw'
        go_simp
        try with_reducible rfl
      try simp only [Act.put, aS, a0, a1]
      refine wpAnyH_take (i := 14) (v := ?_) (gT rfl) (by kernel_rfl) (by kernel_rfl) (by kernel_rfl) (fun _ _ _ h => h) (Or.inl ⟨by rfl, ?_⟩) (by assumption) ?_
      rotate_left
      · intro w' hw'
        try dsimp only at hw'
        go_simp
        try with_reducible rfl
      try simp only [Act.put, aS, a0, a1]
      refine wpAnyH_take (i := 15) (v := ?_) (gT rfl) (by kernel_rfl) (by kernel_rfl) (by kernel_rfl) (fun _ _ _ h => h) (Or.inl ⟨by rfl, ?_⟩) (by assumption) ?_
      rotate_left
      · intro w' hw'
        try dsimp only at hw'
        go_simp
        try with_reducible rfl
      try simp only [Act.put, aS, a0, a1]
      refine wpAnyH_take (i := 17) (v := ?_) (gT rfl) (by kernel_rfl) (by kernel_rfl) (by kernel_rfl) (fun _ _ _ h => h) (Or.inl ⟨by rfl, ?_⟩) (by assumption) ?_
      rotate_left
      · intro w' hw'
        try dsimp only at hw'
        have hch := HAH.out w' (HX.out.trans hw')
        go_simp
        try with_reducible rfl
      try simp only [Act.put, aS, a0, a1]
      refine wpAnyH_take (i := 18) (v := ?_) (gT rfl) (by kernel_rfl) (by kernel_rfl) (by kernel_rfl) (fun _ _ _ h => h) (Or.inl ⟨by rfl, ?_⟩) (by assumption) ?_
      rotate_left
      · intro w' hw'
        try dsimp only at hw'
        go_simp
        try with_reducible rfl
      try simp only [Act.put, aS, a0, a1]
      refine wpAnyH_take (i := 19) (v := ?_) (gT rfl) (by kernel_rfl) (by kernel_rfl) (by kernel_rfl) (fun _ _ _ h => h) (Or.inl ⟨by rfl, ?_⟩) (by assumption) ?_
      rotate_left
      · intro w' hw'
        try dsimp only at hw'
        go_simp
        try with_reducible rfl
      try simp only [Act.put, aS, a0, a1]
      refine wpAnyH_take (i := 20) (v := ?_) (gT rfl) (by kernel_rfl) (by kernel_rfl) (by kernel_rfl) (fun _ _ _ h => h) (Or.inl ⟨by rfl, ?_⟩) (by assumption) ?_
      rotate_left
      · intro w' hw'
        try dsimp only at hw'
        go_simp
        try with_reducible rfl
      try simp only [Act.put, aS, a0, a1]
      refine wpAnyH_take (i := 21) (v := ?_) (gT rfl) (by kernel_rfl) (by kernel_rfl) (by kernel_rfl) (fun _ _ _ h => h) (Or.inl ⟨by rfl, ?_⟩) (by assumption) ?_
      rotate_left
      · intro w' hw'
        try dsimp only at hw'
        go_simp
        try with_reducible rfl
      try simp only [Act.put, aS, a0, a1]
      refine wpAnyH_take (i := 22) (v := ?_) (gT rfl) (by kernel_rfl) (by kernel_rfl) (by kernel_rfl) (fun _ _ _ h => h) (Or.inl ⟨by rfl, ?_⟩) (by assumption) ?_
      rotate_left
      · intro w' hw'
        try dsimp only at hw'
        go_simp
        try with_reducible rfl
      try simp only [Act.put, aS, a0, a1]
      refine wpAnyH_take (i := 23) (v := ?_) (gT rfl) (by kernel_rfl) (by kernel_rfl) (by kernel_rfl) (fun _ _ _ h => h) (Or.inl ⟨by rfl, ?_⟩) (by assumption) ?_
      rotate_left
      · intro w' hw'
        try dsimp only at hw'
        have hco := (HC.out w' (HX.out.trans hw')).2
        go_simp
        try with_reducible rfl
      try simp only [Act.put, aS, a0, a1]
      refine wpAnyH_ready (rs := [16]) (by kernel_rfl) (by simp) ?_
      refine AllReadyH.cons (gT rfl) (fun K hK => ?_) AllReadyH.nil
      go_simp
      go_at_call 44
      refine (client_done' _ Fc gc (h.G 1) (Rep.ext HFC.out hx4) (by omega)).mono ?_
      rintro e w16 ⟨A16, c16, rfl, ho16, hx16', _⟩
      have hx16 := hx4.trans hx16'
      have HO16 := Lib.hid ho16
      clear ho16 hx16' hx4 hHeld
      refine hK.out _ _ hx16 (fun hHeld => ?_)
      clear hK K
      try simp only [Act.put, aS, a0, a1]
      refine wpAnyH_ready (rs := [24]) (by kernel_rfl) (by simp) ?_
      refine AllReadyH.cons (gT rfl) (fun K hK => ?_) AllReadyH.nil
      go_simp
      go_at_call 43
      refine (recs_yes w16 w16.heap.size _ _ (h.G 1).done _ _ HO16.out.reads (HRD.out.ext (HX.out.trans hx16)) (by omega)).mono ?_
      rintro e w24 ⟨rfl, hx24'⟩
      have hx24 := hx16.trans hx24'
      clear hx24' hx16 hHeld
      refine hK.out _ _ hx24 (fun hHeld => ?_)
      clear hK K
      try simp only [Act.put, aS, a0, a1]
      refine wpAnyH_take (i := 25) (v := ?_) (gT rfl) (by kernel_rfl) (by kernel_rfl) (by kernel_rfl) (fun _ _ _ h => h) (Or.inl ⟨by rfl, ?_⟩) (by assumption) ?_
      rotate_left
      · intro w' hw'
        try dsimp only at hw'
        go_simp
        try with_reducible rfl
      try simp only [Act.put, aS, a0, a1]
      refine wpAnyH_take (i := 26) (v := ?_) (gT rfl) (by kernel_rfl) (by kernel_rfl) (by kernel_rfl) (fun _ _ _ h => h) (Or.inl ⟨by rfl, ?_⟩) (by assumption) ?_
      rotate_left
      · intro w' hw'
        try dsimp only at hw'
        go_simp
        try with_reducible rfl
      try simp only [Act.put, aS, a0, a1]
      refine wpAnyH_done (by kernel_rfl) ?_ _
      clear hHeld
      go_wp2
      go_roundw
      case rel => exact ⟨3, by go_num, by omega, HX.out.trans hx24⟩
      case measure => simp [intOf]
    · have HX := Lib.hid hx
      obtain ⟨gc, Fc, hFc, hcl⟩ := world_cl (Rep.ext HF.out hx) 2 (by decide)
      have HFC := Lib.hid hFc
      obtain ⟨A2, cq, hc2, hr2⟩ := HSAID.out.g2
      have HC := Lib.hid hc2
      have HRD := Lib.hid hr2
      have hdl := HOK.out.fits.done 2 (by decide)
      clear hFc hc2 hr2 hx
      go_wp2_with fail
      refine hcl.mono ?_
      rintro e w' ⟨rfl, rfl⟩
      clear hcl
      go_wp2_with fail
      refine wp_region_held_drew (S := fun w' => Ext wr w') (by kernel_rfl) (Touch.drew (Touch.refl _ wr)) (fun hHeld => ?_)
      refine wpAnyH_take (i := 0) (v := ?_) (gT rfl) (by kernel_rfl) (by kernel_rfl) (by kernel_rfl) (fun _ _ _ h => h) (Or.inl ⟨by rfl, ?_⟩) (by assumption) ?_
      rotate_left
      · intro w' hw'
        try dsimp only at hw'
        go_simp
        try with_reducible rfl
      try simp only [Act.put, aS, a0, a1]
      refine wpAnyH_take (i := 1) (v := ?_) (gT rfl) (by kernel_rfl) (by kernel_rfl) (by kernel_rfl) (fun _ _ _ h => h) (Or.inl ⟨by rfl, ?_⟩) (by assumption) ?_
      rotate_left
      · intro w' hw'
        try dsimp only at hw'
        go_simp
        try with_reducible rfl
      try simp only [Act.put, aS, a0, a1]
      refine wpAnyH_take (i := 2) (v := ?_) (gT rfl) (by kernel_rfl) (by kernel_rfl) (by kernel_rfl) (fun _ _ _ h => h) (Or.inl ⟨by rfl, ?_⟩) (by assumption) ?_
      rotate_left
      · intro w' hw'
        try dsimp only at hw'
        go_simp
        try with_reducible rfl
      try simp only [Act.put, aS, a0, a1]
      refine wpAnyH_take (i := 3) (v := ?_) (gT rfl) (by kernel_rfl) (by kernel_rfl) (by kernel_rfl) (fun _ _ _ h => h) (Or.inl ⟨by rfl, ?_⟩) (by assumption) ?_
      rotate_left
      · intro w' hw'
        try dsimp only at hw'
        go_simp
        try with_reducible rfl
      try simp only [Act.put, aS, a0, a1]
      refine wpAnyH_take (i := 5) (v := ?_) (gT rfl) (by kernel_rfl) (by kernel_rfl) (by kernel_rfl) (fun _ _ _ h => h) (Or.inl ⟨by rfl, ?_⟩) (by assumption) ?_
      rotate_left
      · intro w' hw'
        try dsimp only at hw'
        have hch := HAH.out w' (HX.out.trans hw')
        go_simp
        try with_reducible rfl
      try simp only [Act.put, aS, a0, a1]
      refine wpAnyH_take (i := 6) (v := ?_) (gT rfl) (by kernel_rfl) (by kernel_rfl) (by kernel_rfl) (fun _ _ _ h => h) (Or.inl ⟨by rfl, ?_⟩) (by assumption) ?_
      rotate_left
      · intro w' hw'
        try dsimp only at hw'
        go_simp
        try with_reducible rfl
      try simp only [Act.put, aS, a0, a1]
      refine wpAnyH_take (i := 7) (v := ?_) (gT rfl) (by kernel_rfl) (by kernel_rfl) (by kernel_rfl) (fun _ _ _ h => h) (Or.inl ⟨by rfl, ?_⟩) (by assumption) ?_
      rotate_left
      · intro w' hw'
        try dsimp only at hw'
        go_simp
        try with_reducible rfl
      try simp only [Act.put, aS, a0, a1]
      refine wpAnyH_take (i := 8) (v := ?_) (gT rfl) (by kernel_rfl) (by kernel_rfl) (by kernel_rfl) (fun _ _ _ h => h) (Or.inl ⟨by rfl, ?_⟩) (by assumption) ?_
      rotate_left
      · intro w' hw'
        try dsimp only at hw'
        go_simp
        try with_reducible rfl
      try simp only [Act.put, aS, a0, a1]
      refine wpAnyH_take (i := 9) (v := ?_) (gT rfl) (by kernel_rfl) (by kernel_rfl) (by kernel_rfl) (fun _ _ _ h => h) (Or.inl ⟨by rfl, ?_⟩) (by assumption) ?_
      rotate_left
      · intro w' hw'
        try dsimp only at hw'
        go_simp
        try with_reducible rfl
      try simp only [Act.put, aS, a0, a1]
      refine wpAnyH_take (i := 10) (v := ?_) (gT rfl) (by kernel_rfl) (by kernel_rfl) (by kernel_rfl) (fun _ _ _ h => h) (Or.inl ⟨by rfl, ?_⟩) (by assumption) ?_
      rotate_left
      · intro w' hw'
        try dsimp only at hw'
        go_simp
        try with_reducible rfl
      try simp only [Act.put, aS, a0, a1]
      refine wpAnyH_take (i := 11) (v := ?_) (gT rfl) (by kernel_rfl) (by kernel_rfl) (by kernel_rfl) (fun _ _ _ h => h) (Or.inl ⟨by rfl, ?_⟩) (by assumption) ?_
      rotate_left
      · intro w' hw'
        try dsimp only at hw'
        have hco := (HC.out w' (HX.out.trans hw')).1
        go_simp
        try with_reducible rfl
      try simp only [Act.put, aS, a0, a1]
      refine wpAnyH_ready (rs := [4]) (by kernel_rfl) (by simp) ?_
      refine AllReadyH.cons (gT rfl) (fun K hK => ?_) AllReadyH.nil
      go_simp
      go_at_call 42
      have hx4 : Ext wr wr.drew := Touch.drew (Touch.refl _ wr)
      refine (client_open' _ Fc gc (h.G 2) (Rep.ext HFC.out hx4)).mono ?_
      rintro e w4 ⟨rfl, rfl⟩
      refine hK.out _ _ hx4 (fun hHeld => ?_)
      clear hK K
      try simp only [Act.put, aS, a0, a1]
      have hbn : ((h.G 2).isOpen != (h.G 2).isOpen) = false := by simp
      refine wpAnyH_take (i := 12) (v := ?_) (gT rfl) (by kernel_rfl) (by kernel_rfl) (by kernel_rfl) (fun _ _ _ h => h) (Or.inl ⟨by rfl, ?_⟩) (by assumption) ?_
      rotate_left
      · intro w' hw'
        try dsimp only at hw'
        go_simp
        try with_reducible rfl
      try simp only [Act.put, aS, a0, a1]
      refine wpAnyH_take (i := 13) (v := ?_) (gT rfl) (by kernel_rfl) (by kernel_rfl) (by kernel_rfl) (fun _ _ _ h => h) (Or.inl ⟨by rfl, ?_⟩) (by assumption) ?_
      rotate_left
      · intro w' hw'
        try dsimp only at hw'
        go_simp
        try with_reducible rfl
      try simp only [Act.put, aS, a0, a1]
      refine wpAnyH_take (i := 14) (v := ?_) (gT rfl) (by kernel_rfl) (by kernel_rfl) (by kernel_rfl) (fun _ _ _ h => h) (Or.inl ⟨by rfl, ?_⟩) (by assumption) ?_
      rotate_left
      · intro w' hw'
        try dsimp only at hw'
        go_simp
        try with_reducible rfl
      try simp only [Act.put, aS, a0, a1]
      refine wpAnyH_take (i := 15) (v := ?_) (gT rfl) (by kernel_rfl) (by kernel_rfl) (by kernel_rfl) (fun _ _ _ h => h) (Or.inl ⟨by rfl, ?_⟩) (by assumption) ?_
      rotate_left
      · intro w' hw'
        try dsimp only at hw'
        go_simp
        try with_reducible rfl
      try simp only [Act.put, aS, a0, a1]
      refine wpAnyH_take (i := 17) (v := ?_) (gT rfl) (by kernel_rfl) (by kernel_rfl) (by kernel_rfl) (fun _ _ _ h => h) (Or.inl ⟨by rfl, ?_⟩) (by assumption) ?_
      rotate_left
      · intro w' hw'
        try dsimp only at hw'
        have hch := HAH.out w' (HX.out.trans hw')
        go_simp
        try with_reducible rfl
      try simp only [Act.put, aS, a0, a1]
      refine wpAnyH_take (i := 18) (v := ?_) (gT rfl) (by kernel_rfl) (by kernel_rfl) (by kernel_rfl) (fun _ _ _ h => h) (Or.inl ⟨by rfl, ?_⟩) (by assumption) ?_
      rotate_left
      · intro w' hw'
        try dsimp only at hw'
        go_simp
        try with_reducible rfl
      try simp only [Act.put, aS, a0, a1]
      refine wpAnyH_take (i := 19) (v := ?_) (gT rfl) (by kernel_rfl) (by kernel_rfl) (by kernel_rfl) (fun _ _ _ h => h) (Or.inl ⟨by rfl, ?_⟩) (by assumption) ?_
      rotate_left
      · intro w' hw'
        try dsimp only at hw'
        go_simp
        try with_reducible rfl
      try simp only [Act.put, aS, a0, a1]
      refine wpAnyH_take (i := 20) (v := ?_) (gT rfl) (by kernel_rfl) (by kernel_rfl) (by kernel_rfl) (fun _ _ _ h => h) (Or.inl ⟨by rfl, ?_⟩) (by assumption) ?_
      rotate_left
      · intro w' hw'
        try dsimp only at hw'
        go_simp
        try with_reducible rfl
      try simp only [Act.put, aS, a0, a1]
      refine wpAnyH_take (i := 21) (v := ?_) (gT rfl) (by kernel_rfl) (by kernel_rfl) (by kernel_rfl) (fun _ _ _ h => h) (Or.inl ⟨by rfl, ?_⟩) (by assumption) ?_
      rotate_left
      · intro w' hw'
        try dsimp only at hw'
        go_simp
        try with_reducible rfl
      try simp only [Act.put, aS, a0, a1]
      refine wpAnyH_take (i := 22) (v := ?_) (gT rfl) (by kernel_rfl) (by kernel_rfl) (by kernel_rfl) (fun _ _ _ h => h) (Or.inl ⟨by rfl, ?_⟩) (by assumption) ?_
      rotate_left
      · intro w' hw'
        try dsimp only at hw'
        go_simp
        try with_reducible rfl
      try simp only [Act.put, aS, a0, a1]
      refine wpAnyH_take (i := 23) (v := ?_) (gT rfl) (by kernel_rfl) (by kernel_rfl) (by kernel_rfl) (fun _ _ _ h => h) (Or.inl ⟨by rfl, ?_⟩) (by assumption) ?_
      rotate_left
      · intro w' hw'
        try dsimp only at hw'
        have hco := (HC.out w' (HX.out.trans hw')).2
        go_simp
        try with_reducible rfl
      try simp only [Act.put, aS, a0, a1]
      refine wpAnyH_ready (rs := [16]) (by kernel_rfl) (by simp) ?_
      refine AllReadyH.cons (gT rfl) (fun K hK => ?_) AllReadyH.nil
      go_simp
      go_at_call 44
      refine (client_done' _ Fc gc (h.G 2) (Rep.ext HFC.out hx4) (by omega)).mono ?_
      rintro e w16 ⟨A16, c16, rfl, ho16, hx16', _⟩
      have hx16 := hx4.trans hx16'
      have HO16 := Lib.hid ho16
      clear ho16 hx16' hx4 hHeld
      refine hK.out _ _ hx16 (fun hHeld => ?_)
      clear hK K
      try simp only [Act.put, aS, a0, a1]
      refine wpAnyH_ready (rs := [24]) (by kernel_rfl) (by simp) ?_
      refine AllReadyH.cons (gT rfl) (fun K hK => ?_) AllReadyH.nil
      go_simp
      go_at_call 43
      refine (recs_yes w16 w16.heap.size _ _ (h.G 2).done _ _ HO16.out.reads (HRD.out.ext (HX.out.trans hx16)) (by omega)).mono ?_
      rintro e w24 ⟨rfl, hx24'⟩
      have hx24 := hx16.trans hx24'
      clear hx24' hx16 hHeld
      refine hK.out _ _ hx24 (fun hHeld => ?_)
      clear hK K
      try simp only [Act.put, aS, a0, a1]
      refine wpAnyH_take (i := 25) (v := ?_) (gT rfl) (by kernel_rfl) (by kernel_rfl) (by kernel_rfl) (fun _ _ _ h => h) (Or.inl ⟨by rfl, ?_⟩) (by assumption) ?_
      rotate_left
      · intro w' hw'
        try dsimp only at hw'
        go_simp
        try with_reducible rfl
      try simp only [Act.put, aS, a0, a1]
      refine wpAnyH_take (i := 26) (v := ?_) (gT rfl) (by kernel_rfl) (by kernel_rfl) (by kernel_rfl) (fun _ _ _ h => h) (Or.inl ⟨by rfl, ?_⟩) (by assumption) ?_
      rotate_left
      · intro w' hw'
        try dsimp only at hw'
        go_simp
        try with_reducible rfl
      try simp only [Act.put, aS, a0, a1]
      refine wpAnyH_done (by kernel_rfl) ?_ _
      clear hHeld
      go_wp2
      go_roundw
      case rel => exact ⟨4, by go_num, by omega, HX.out.trans hx24⟩
      case measure => simp [intOf]
    · go_wp2_with fail
      refine (world_client_no wr gw 3 (by decide)).mono ?_
      rintro e w' ⟨rfl, rfl⟩
      go_wp2
      go_roundw
      case rel => exact ⟨5, by go_num, by omega, hx⟩
      case measure => simp [intOf]
    · have HX := Lib.hid hx
      obtain ⟨gs, Fs, hws⟩ := world_store2 (Rep.ext HF.out hx)
      have HWS := Lib.hid hws
      obtain ⟨sC, FC, hFC, _⟩ := (house_open (Rep.ext HG.out hx)).chest
      have HFC := Lib.hid hFC
      obtain ⟨A0, c0, hc0, hr0⟩ := HSAID.out.chest
      obtain ⟨A25, c25, hc25, hr25⟩ := HSAID.out.bag
      have HC0 := Lib.hid (fun w' (hw' : Ext wr w') => hc0 w' (hx.trans hw'))
      have HC25 := Lib.hid (fun w' (hw' : Ext wr w') => hc25 w' (hx.trans hw'))
      have HR0 := Lib.hid (hr0.ext hx)
      have HR25 := Lib.hid (hr25.ext hx)
      obtain ⟨gf, u, v, hA, hH⟩ := store_parts (hws wr (Touch.refl _ wr)).2
      have HG0 := Lib.hid (show ∀ w', Ext wr w' → w'.cell? ⟨gs, 0, none⟩ = some (.pointer (some ⟨gf, 0, none⟩)) from fun w' hw' => (cell_of (hw'.blk hA.cell id) 0).trans (StoreD.get0 _ _ _))
      have HH := Lib.hid hH
      have HAW2 := Lib.hid (fun w' (hw' : Ext wr w') => HAW.out w' (hx.trans hw'))
      have HAH2 := Lib.hid (fun w' (hw' : Ext wr w') => HAH.out w' (hx.trans hw'))
      have hlog := HOK.out.log.len
      have hlen := log_len HOK.out.log.each
      have hfb6 := (fbehind_ok h.S).len
      have hbag := HOK.out.bag
      have HSR := Lib.hid (show ∀ r ∈ h.S, StrCall r.call from fun r hr => recok_str (HOK.out.log.each r hr))
      have hself : ((mkStr (logBytes h.S)).toList == (mkStr (logBytes h.S)).toList) = true := by simp
      clear hws hFC hc0 hc25 hr0 hr25 hA hH hx
      go_wp2_with fail
      refine wp_region_held_drew (S := fun w' => Ext wr w') (by kernel_rfl) (Touch.drew (Touch.refl _ wr)) (fun hHeld => ?_)
      refine wpAnyH_take (i := 0) (v := ?_) (gT rfl) (by kernel_rfl) (by kernel_rfl) (by kernel_rfl) (fun _ _ _ h => h) (Or.inl ⟨by rfl, ?_⟩) (by assumption) ?_
      rotate_left
      · intro w' hw'
        try dsimp only at hw'
        have hca := HAW2.out w' hw'
        go_simp
        try with_reducible rfl
      try simp only [Act.put, aS, a0, a1]
      refine wpAnyH_take (i := 6) (v := ?_) (gT rfl) (by kernel_rfl) (by kernel_rfl) (by kernel_rfl) (fun _ _ _ h => h) (Or.inl ⟨by rfl, ?_⟩) (by assumption) ?_
      rotate_left
      · intro w' hw'
        try dsimp only at hw'
        have hca := HAH2.out w' hw'
        go_simp
        try with_reducible rfl
      try simp only [Act.put, aS, a0, a1]
      refine wpAnyH_take (i := 1) (v := ?_) (gT rfl) (by kernel_rfl) (by kernel_rfl) (by kernel_rfl) (fun _ _ _ h => h) (Or.inl ⟨by rfl, ?_⟩) (by assumption) ?_
      rotate_left
      · intro w' hw'
        try dsimp only at hw'
        go_simp
        try with_reducible rfl
      try simp only [Act.put, aS, a0, a1]
      refine wpAnyH_take (i := 7) (v := ?_) (gT rfl) (by kernel_rfl) (by kernel_rfl) (by kernel_rfl) (fun _ _ _ h => h) (Or.inl ⟨by rfl, ?_⟩) (by assumption) ?_
      rotate_left
      · intro w' hw'
        try dsimp only at hw'
        go_simp
        try with_reducible rfl
      try simp only [Act.put, aS, a0, a1]
      refine wpAnyH_take (i := 2) (v := ?_) (gT rfl) (by kernel_rfl) (by kernel_rfl) (by kernel_rfl) (fun _ _ _ h => h) (Or.inl ⟨by rfl, ?_⟩) (by assumption) ?_
      rotate_left
      · intro w' hw'
        try dsimp only at hw'
        go_simp
        try with_reducible rfl
      try simp only [Act.put, aS, a0, a1]
      refine wpAnyH_take (i := 8) (v := ?_) (gT rfl) (by kernel_rfl) (by kernel_rfl) (by kernel_rfl) (fun _ _ _ h => h) (Or.inl ⟨by rfl, ?_⟩) (by assumption) ?_
      rotate_left
      · intro w' hw'
        try dsimp only at hw'
        go_simp
        try with_reducible rfl
      try simp only [Act.put, aS, a0, a1]
      refine wpAnyH_take (i := 3) (v := ?_) (gT rfl) (by kernel_rfl) (by kernel_rfl) (by kernel_rfl) (fun _ _ _ h => h) (Or.inl ⟨by rfl, ?_⟩) (by assumption) ?_
      rotate_left
      · intro w' hw'
        try dsimp only at hw'
        have hca := (HWS.out w' hw').1
        go_simp
        try with_reducible rfl
      try simp only [Act.put, aS, a0, a1]
      refine wpAnyH_ready (rs := [4]) (by kernel_rfl) (by simp) ?_
      refine AllReadyH.cons (gT rfl) (fun K hK => ?_) AllReadyH.nil
      go_simp
      go_at_call 23
      have hx0 : Ext wr wr.drew := Touch.drew (Touch.refl _ wr)
      refine (store_logs _ gs Fs h.S (HWS.out _ hx0).2 HOK.out.log).mono ?_
      rintro e w4 ⟨A4, c4, rfl, ho4, hx4', _⟩
      have hx4 := hx0.trans hx4'
      have HO4 := Lib.hid ho4
      have HX4 := Lib.hid hx4
      clear ho4 hx4' hx0
      refine hK.out _ _ hx4 (fun _ => ?_)
      clear hK K
      try simp only [Act.put, aS, a0, a1]
      refine wpAnyH_more (S' := fun w' => Ext w4 w') (fun w' h => hx4.trans h) _ _ _ _ ?_
      clear hx4 hHeld
      have hHeld : Ext w4 w4 := Touch.refl _ _
      refine wpAnyH_take (i := 5) (v := ?_) (gT rfl) (by kernel_rfl) (by kernel_rfl) (by kernel_rfl) (fun _ _ _ h => h) (Or.inl ⟨by rfl, ?_⟩) (by assumption) ?_
      rotate_left
      · intro w' hw'
        try dsimp only at hw'
        have hcv := conv_log (HO4.out.ext hw')
        go_simp
        try with_reducible rfl
      try simp only [Act.put, aS, a0, a1]
      refine wpAnyH_ready (rs := [9]) (by kernel_rfl) (by simp) ?_
      refine AllReadyH.cons (gT rfl) (fun K hK => ?_) AllReadyH.nil
      go_simp
      go_at_call 28
      refine (chestS_bytes' w4 gh 0 sC FC h.S (Rep.ext HFC.out HX4.out) HOK.out.log.each (by omega)).mono ?_
      rintro e w9 ⟨A9, c9, rfl, ho9, hx9, _⟩
      have HO9 := Lib.hid ho9
      have HX9 := Lib.hid (HX4.out.trans hx9)
      clear ho9
      refine hK.out _ _ hx9 (fun _ => ?_)
      clear hK K
      try simp only [Act.put, aS, a0, a1]
      refine wpAnyH_more (S' := fun w' => Ext w9 w') (fun w' h => hx9.trans h) _ _ _ _ ?_
      clear hx9 hHeld
      have hHeld : Ext w9 w9 := Touch.refl _ _
      refine wpAnyH_take (i := 10) (v := ?_) (gT rfl) (by kernel_rfl) (by kernel_rfl) (by kernel_rfl) (fun _ _ _ h => h) (Or.inl ⟨by rfl, ?_⟩) (by assumption) ?_
      rotate_left
      · intro w' hw'
        try dsimp only at hw'
        have hcv := conv_log (HO9.out.ext hw')
        go_simp
        try with_reducible rfl
      try simp only [Act.put, aS, a0, a1]
      refine wpAnyH_take (i := 11) (v := ?_) (gT rfl) (by kernel_rfl) (by kernel_rfl) (by kernel_rfl) (fun _ _ _ h => h) (Or.inl ⟨by rfl, ?_⟩) (by assumption) ?_
      rotate_left
      · intro w' hw'
        try dsimp only at hw'
        go_simp
        try with_reducible rfl
      try simp only [Act.put, aS, a0, a1]
      refine wpAnyH_take (i := 12) (v := ?_) (gT rfl) (by kernel_rfl) (by kernel_rfl) (by kernel_rfl) (fun _ _ _ h => h) (Or.inl ⟨by rfl, ?_⟩) (by assumption) ?_
      rotate_left
      · intro w' hw'
        try dsimp only at hw'
        go_simp
        try with_reducible rfl
      try simp only [Act.put, aS, a0, a1]
      refine wpAnyH_take (i := 13) (v := ?_) (gT rfl) (by kernel_rfl) (by kernel_rfl) (by kernel_rfl) (fun _ _ _ h => h) (Or.inl ⟨by rfl, ?_⟩) (by assumption) ?_
      rotate_left
      · intro w' hw'
        try dsimp only at hw'
        have hca := HAW2.out w' (HX9.out.trans hw')
        go_simp
        try with_reducible rfl
      try simp only [Act.put, aS, a0, a1]
      refine wpAnyH_take (i := 15) (v := ?_) (gT rfl) (by kernel_rfl) (by kernel_rfl) (by kernel_rfl) (fun _ _ _ h => h) (Or.inl ⟨by rfl, ?_⟩) (by assumption) ?_
      rotate_left
      · intro w' hw'
        try dsimp only at hw'
        have hca := HAH2.out w' (HX9.out.trans hw')
        go_simp
        try with_reducible rfl
      try simp only [Act.put, aS, a0, a1]
      refine wpAnyH_take (i := 16) (v := ?_) (gT rfl) (by kernel_rfl) (by kernel_rfl) (by kernel_rfl) (fun _ _ _ h => h) (Or.inl ⟨by rfl, ?_⟩) (by assumption) ?_
      rotate_left
      · intro w' hw'
        try dsimp only at hw'
        go_simp
        try with_reducible rfl
      try simp only [Act.put, aS, a0, a1]
      refine wpAnyH_take (i := 17) (v := ?_) (gT rfl) (by kernel_rfl) (by kernel_rfl) (by kernel_rfl) (fun _ _ _ h => h) (Or.inl ⟨by rfl, ?_⟩) (by assumption) ?_
      rotate_left
      · intro w' hw'
        try dsimp only at hw'
        go_simp
        try with_reducible rfl
      try simp only [Act.put, aS, a0, a1]
      refine wpAnyH_take (i := 18) (v := ?_) (gT rfl) (by kernel_rfl) (by kernel_rfl) (by kernel_rfl) (fun _ _ _ h => h) (Or.inl ⟨by rfl, ?_⟩) (by assumption) ?_
      rotate_left
      · intro w' hw'
        try dsimp only at hw'
        have hca := HC25.out w' (HX9.out.trans hw')
        go_simp
        try with_reducible rfl
      try simp only [Act.put, aS, a0, a1]
      refine wpAnyH_ready (rs := [14]) (by kernel_rfl) (by simp) ?_
      refine AllReadyH.cons (gT rfl) (fun K hK => ?_) AllReadyH.nil
      go_simp
      go_at_call 46
      refine (world_packets w9 gw F h (Rep.ext HF.out (HX.out.trans HX9.out)) HOK.out.bag).mono ?_
      rintro e w14 ⟨A14, c14, rfl, ho14, hx14, _⟩
      have HO14 := Lib.hid ho14
      have HX14 := Lib.hid (HX9.out.trans hx14)
      clear ho14
      refine hK.out _ _ hx14 (fun hHeld => ?_)
      clear hK K
      try simp only [Act.put, aS, a0, a1]
      refine wpAnyH_ready (rs := [19]) (by kernel_rfl) (by simp) ?_
      refine AllReadyH.cons (gT rfl) (fun K hK => ?_) AllReadyH.nil
      go_simp
      go_at_call 45
      refine (packs_yes w14 w14.heap.size _ _ h.bag _ _ HO14.out.reads (HR25.out.ext HX14.out) HOK.out.bag).mono ?_
      rintro e w19 ⟨rfl, hx19'⟩
      have HX19 := Lib.hid (HX14.out.trans hx19')
      have hx19 := hx14.trans hx19'
      clear hx14 hx19'
      refine hK.out _ _ hx19 (fun _ => ?_)
      clear hK K
      try simp only [Act.put, aS, a0, a1]
      refine wpAnyH_more (S' := fun w' => Ext w19 w') (fun w' h => hx19.trans h) _ _ _ _ ?_
      clear hx19 hHeld
      have hHeld : Ext w19 w19 := Touch.refl _ _
      refine wpAnyH_take (i := 20) (v := ?_) (gT rfl) (by kernel_rfl) (by kernel_rfl) (by kernel_rfl) (fun _ _ _ h => h) (Or.inl ⟨by rfl, ?_⟩) (by assumption) ?_
      rotate_left
      · intro w' hw'
        try dsimp only at hw'
        go_simp
        try with_reducible rfl
      try simp only [Act.put, aS, a0, a1]
      refine wpAnyH_take (i := 21) (v := ?_) (gT rfl) (by kernel_rfl) (by kernel_rfl) (by kernel_rfl) (fun _ _ _ h => h) (Or.inl ⟨by rfl, ?_⟩) (by assumption) ?_
      rotate_left
      · intro w' hw'
        try dsimp only at hw'
        go_simp
        try with_reducible rfl
      try simp only [Act.put, aS, a0, a1]
      refine wpAnyH_take (i := 22) (v := ?_) (gT rfl) (by kernel_rfl) (by kernel_rfl) (by kernel_rfl) (fun _ _ _ h => h) (Or.inl ⟨by rfl, ?_⟩) (by assumption) ?_
      rotate_left
      · intro w' hw'
        try dsimp only at hw'
        have hca := HAW2.out w' (HX19.out.trans hw')
        go_simp
        try with_reducible rfl
      try simp only [Act.put, aS, a0, a1]
      refine wpAnyH_take (i := 30) (v := ?_) (gT rfl) (by kernel_rfl) (by kernel_rfl) (by kernel_rfl) (fun _ _ _ h => h) (Or.inl ⟨by rfl, ?_⟩) (by assumption) ?_
      rotate_left
      · intro w' hw'
        try dsimp only at hw'
        have hca := HAH2.out w' (HX19.out.trans hw')
        go_simp
        try with_reducible rfl
      try simp only [Act.put, aS, a0, a1]
      refine wpAnyH_take (i := 23) (v := ?_) (gT rfl) (by kernel_rfl) (by kernel_rfl) (by kernel_rfl) (fun _ _ _ h => h) (Or.inl ⟨by rfl, ?_⟩) (by assumption) ?_
      rotate_left
      · intro w' hw'
        try dsimp only at hw'
        go_simp
        try with_reducible rfl
      try simp only [Act.put, aS, a0, a1]
      refine wpAnyH_take (i := 31) (v := ?_) (gT rfl) (by kernel_rfl) (by kernel_rfl) (by kernel_rfl) (fun _ _ _ h => h) (Or.inl ⟨by rfl, ?_⟩) (by assumption) ?_
      rotate_left
      · intro w' hw'
        try dsimp only at hw'
        go_simp
        try with_reducible rfl
      try simp only [Act.put, aS, a0, a1]
      refine wpAnyH_take (i := 24) (v := ?_) (gT rfl) (by kernel_rfl) (by kernel_rfl) (by kernel_rfl) (fun _ _ _ h => h) (Or.inl ⟨by rfl, ?_⟩) (by assumption) ?_
      rotate_left
      · intro w' hw'
        try dsimp only at hw'
        go_simp
        try with_reducible rfl
      try simp only [Act.put, aS, a0, a1]
      refine wpAnyH_take (i := 32) (v := ?_) (gT rfl) (by kernel_rfl) (by kernel_rfl) (by kernel_rfl) (fun _ _ _ h => h) (Or.inl ⟨by rfl, ?_⟩) (by assumption) ?_
      rotate_left
      · intro w' hw'
        try dsimp only at hw'
        go_simp
        try with_reducible rfl
      try simp only [Act.put, aS, a0, a1]
      refine wpAnyH_take (i := 25) (v := ?_) (gT rfl) (by kernel_rfl) (by kernel_rfl) (by kernel_rfl) (fun _ _ _ h => h) (Or.inl ⟨by rfl, ?_⟩) (by assumption) ?_
      rotate_left
      · intro w' hw'
        try dsimp only at hw'
        have hca := (HWS.out w' (HX19.out.trans hw')).1
        go_simp
        try with_reducible rfl
      try simp only [Act.put, aS, a0, a1]
      refine wpAnyH_take (i := 33) (v := ?_) (gT rfl) (by kernel_rfl) (by kernel_rfl) (by kernel_rfl) (fun _ _ _ h => h) (Or.inl ⟨by rfl, ?_⟩) (by assumption) ?_
      rotate_left
      · intro w' hw'
        try dsimp only at hw'
        go_simp
        try with_reducible rfl
      try simp only [Act.put, aS, a0, a1]
      refine wpAnyH_take (i := 26) (v := ?_) (gT rfl) (by kernel_rfl) (by kernel_rfl) (by kernel_rfl) (fun _ _ _ h => h) (Or.inl ⟨by rfl, ?_⟩) (by assumption) ?_
      rotate_left
      · intro w' hw'
        try dsimp only at hw'
        go_simp
        try with_reducible rfl
      try simp only [Act.put, aS, a0, a1]
      refine wpAnyH_take (i := 34) (v := ?_) (gT rfl) (by kernel_rfl) (by kernel_rfl) (by kernel_rfl) (fun _ _ _ h => h) (Or.inl ⟨by rfl, ?_⟩) (by assumption) ?_
      rotate_left
      · intro w' hw'
        try dsimp only at hw'
        have hca := HC0.out w' (HX19.out.trans hw')
        go_simp
        try with_reducible rfl
      try simp only [Act.put, aS, a0, a1]
      refine wpAnyH_take (i := 27) (v := ?_) (gT rfl) (by kernel_rfl) (by kernel_rfl) (by kernel_rfl) (fun _ _ _ h => h) (Or.inl ⟨by rfl, ?_⟩) (by assumption) ?_
      rotate_left
      · intro w' hw'
        try dsimp only at hw'
        go_simp
        try with_reducible rfl
      try simp only [Act.put, aS, a0, a1]
      refine wpAnyH_take (i := 28) (v := ?_) (gT rfl) (by kernel_rfl) (by kernel_rfl) (by kernel_rfl) (fun _ _ _ h => h) (Or.inl ⟨by rfl, ?_⟩) (by assumption) ?_
      rotate_left
      · intro w' hw'
        try dsimp only at hw'
        have hca := HG0.out w' (HX19.out.trans hw')
        go_simp
        try with_reducible rfl
      try simp only [Act.put, aS, a0, a1]
      refine wpAnyH_ready (rs := [29]) (by kernel_rfl) (by simp) ?_
      refine AllReadyH.cons (gT rfl) (fun K hK => ?_) AllReadyH.nil
      go_simp
      go_at_call 17
      refine (files_names w19 gf v (fbehind h.S) (HH.out.ext HX19.out) (by omega)).mono ?_
      rintro e w29 ⟨A29, c29, rfl, ho29, hx29, _⟩
      have HO29 := Lib.hid ho29
      have HX29 := Lib.hid (HX19.out.trans hx29)
      clear ho29
      refine hK.out _ _ hx29 (fun _ => ?_)
      clear hK K
      try simp only [Act.put, aS, a0, a1]
      refine wpAnyH_more (S' := fun w' => Ext w29 w') (fun w' h => hx29.trans h) _ _ _ _ ?_
      clear hx29 hHeld
      have hHeld : Ext w29 w29 := Touch.refl _ _
      refine wpAnyH_ready (rs := [35]) (by kernel_rfl) (by simp) ?_
      refine AllReadyH.cons (gT rfl) (fun K hK => ?_) AllReadyH.nil
      go_simp
      go_at_call 24
      refine (ref_behind w29 w29.heap.size _ _ _ h.S (HR0.out.ext HX29.out) (Nat.le_refl _) rfl HSR.out (by omega)).mono ?_
      rintro e w35 ⟨gd, rfl, hd35⟩
      have hx35 : Ext w29 w35 := hd35.ext
      have HXA := Lib.hid hx35
      obtain ⟨Fd, ⟨vd, _, hhd⟩, _⟩ := hd35.ex
      obtain ⟨Ad, cd, rfl, _⟩ := hhd.own.form
      have HHD := Lib.hid hhd
      have HX35 := Lib.hid (HX29.out.trans hx35)
      clear hd35 hhd
      refine hK.out _ _ hx35 (fun _ => ?_)
      clear hK K
      try simp only [Act.put, aS, a0, a1]
      refine wpAnyH_more (S' := fun w' => Ext w35 w') (fun w' h => hx35.trans h) _ _ _ _ ?_
      clear hx35 hHeld
      have hHeld : Ext w35 w35 := Touch.refl _ _
      refine wpAnyH_take (i := 36) (v := ?_) (gT rfl) (by kernel_rfl) (by kernel_rfl) (by kernel_rfl) (fun _ _ _ h => h) (Or.inl ⟨by rfl, ?_⟩) (by assumption) ?_
      rotate_left
      · intro w' hw'
        try dsimp only at hw'
        go_simp
        try with_reducible rfl
      try simp only [Act.put, aS, a0, a1]
      refine wpAnyH_take (i := 37) (v := ?_) (gT rfl) (by kernel_rfl) (by kernel_rfl) (by kernel_rfl) (fun _ _ _ h => h) (Or.inl ⟨by rfl, ?_⟩) (by assumption) ?_
      rotate_left
      · intro w' hw'
        try dsimp only at hw'
        have hcd := (cell_of (HHD.out.ext hw').cell 0)
        go_simp
        try with_reducible rfl
      try simp only [Act.put, aS, a0, a1]
      refine wpAnyH_ready (rs := [38]) (by kernel_rfl) (by simp) ?_
      refine AllReadyH.cons (gT rfl) (fun K hK => ?_) AllReadyH.nil
      go_simp
      go_at_call 25
      refine (drawer_names_of w35 h.S _ HHD.out.own rfl).mono ?_
      rintro e w38 ⟨A38, c38, rfl, ho38, hx38, _⟩
      have HO38 := Lib.hid ho38
      have HO29' := Lib.hid ((HO29.out.ext HXA.out).ext hx38)
      have HX38 := Lib.hid (HX35.out.trans hx38)
      clear ho38
      refine hK.out _ _ hx38 (fun _ => ?_)
      clear hK K
      try simp only [Act.put, aS, a0, a1]
      refine wpAnyH_more (S' := fun w' => Ext w38 w') (fun w' h => hx38.trans h) _ _ _ _ ?_
      clear hx38 hHeld
      have hHeld : Ext w38 w38 := Touch.refl _ _
      refine wpAnyH_ready (rs := [39]) (by kernel_rfl) (by simp) ?_
      refine AllReadyH.cons (gT rfl) (fun K hK => ?_) AllReadyH.nil
      go_simp
      go_at_call 16
      refine (texts_yes2 _ _ _ _ _ _ _ _ ((fbehind h.S).map (·.name)) HO29'.out.reads HO38.out.reads (by simp) (by simp) (by omega)).mono ?_
      rintro e w39 ⟨rfl, hx39⟩
      have HX39 := Lib.hid (HX38.out.trans hx39)
      refine hK.out _ _ hx39 (fun _ => ?_)
      clear hK K
      try simp only [Act.put, aS, a0, a1]
      refine wpAnyH_more (S' := fun w' => Ext w39 w') (fun w' h => hx39.trans h) _ _ _ _ ?_
      clear hx39 hHeld
      have hHeld : Ext w39 w39 := Touch.refl _ _
      refine wpAnyH_take (i := 40) (v := ?_) (gT rfl) (by kernel_rfl) (by kernel_rfl) (by kernel_rfl) (fun _ _ _ h => h) (Or.inl ⟨by rfl, ?_⟩) (by assumption) ?_
      rotate_left
      · intro w' hw'
        try dsimp only at hw'
        go_simp
        try with_reducible rfl
      try simp only [Act.put, aS, a0, a1]
      refine wpAnyH_take (i := 41) (v := ?_) (gT rfl) (by kernel_rfl) (by kernel_rfl) (by kernel_rfl) (fun _ _ _ h => h) (Or.inl ⟨by rfl, ?_⟩) (by assumption) ?_
      rotate_left
      · intro w' hw'
        try dsimp only at hw'
        go_simp
        try with_reducible rfl
      try simp only [Act.put, aS, a0, a1]
      refine wpAnyH_done (by kernel_rfl) ?_ _
      go_wp2
      go_ret
      exact ⟨rfl, HX.out.trans HX39.out⟩
end Go.Proofs.Ytalfbhhldfffkab
