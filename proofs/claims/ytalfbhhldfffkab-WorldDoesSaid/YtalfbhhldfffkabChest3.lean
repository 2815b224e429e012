/- Chest3: the walks of Call and Tear of the reference's Chest. -/
import Derived.Test.YtalfbhhldfffkabGStore
import Derived.Test.YtalfbhhldfffkabGCheck
namespace Go.Proofs.Ytalfbhhldfffkab
open Go.RowKit

section
variable {X Y : Type} {R : Rep X} {S : Rep Y} {w w' wr : World} {F : Nat → Prop} {x x' : X} {y y' : Y}
theorem Moved.beside (h : Moved R w F x wr) (h2 : Has S wr w' y) : Moved (R.and S) w F (x, y) w' := by
  obtain ⟨F', h1, ht, hf⟩ := h
  obtain ⟨G, hG, hn⟩ := h2.ex
  exact Moved.after ht hf (Rep.beside h1 (h2.ext.mono fun _ h => h.elim) (R.ext h1 h2.ext) hG hn)
theorem Moved.sndM (h : Moved (R.and S) w F (x, y) wr) : ∃ F', S.on wr F' y ∧ ∀ y' w', Moved S wr F' y' w' → Moved (R.and S) w F (x, y') w' := by
  obtain ⟨H, hH, hm⟩ := h.opened
  obtain ⟨F1, hF1, hm1⟩ := Rep.snd hH
  exact ⟨F1, hF1, fun x' w' m => hm _ _ (hm1 _ _ m)⟩
end
section
variable {α : Type} [Lies α] {w w' wr : World} {F : Nat → Prop} {g : Nat} {T E : TypeId} {v v' : Value} {cs cs' : Array Value} {l l' : List α}
theorem holds_parts (h : (repHolds g T E).on w F l) (hne : E ≠ T) : ∃ v, ((repBlock g T).and (repOwn E)).on w F (#[v], (v, l)) := by
  obtain ⟨v, hF, hh⟩ := h
  refine ⟨v, fun k => k = g, fun k => v.ownBlock = some k, ⟨fun _ => Iff.rfl, hh.cell⟩, ⟨fun _ => Iff.rfl, hh.own⟩, fun k hk hg => ?_, hF⟩
  subst hk
  exact hh.own.elem hh.cell hne hg
theorem parts_holds (h : ((repBlock g T).and (repOwn E)).on w F (#[v], (v, l))) : (repHolds g T E).on w F l ∧ Holds w g T E v l := by
  obtain ⟨F1, G, h1, h2, _, hH⟩ := h
  have hh : Holds w g T E v l := ⟨h1.2, h2.2⟩
  refine ⟨⟨v, fun k => (hH k).trans ⟨fun h => ?_, fun h => ?_⟩, hh⟩, hh⟩
  · rcases h with h | h
    · exact .inl ((h1.1 k).1 h)
    · exact .inr ((h2.1 k).1 h)
  · rcases h with h | h
    · exact .inl ((h1.1 k).2 h)
    · exact .inr ((h2.1 k).2 h)
theorem Moved.holds (h : Moved ((repBlock g T).and (repOwn E)) w F (#[v], (v, l)) w') : Moved (repHolds g T E) w F l w' := by
  obtain ⟨F', h1, h2, h3⟩ := h
  exact ⟨F', (parts_holds h1).1, h2, h3⟩
theorem Moved.turn0 {Y : Type} {O : Rep Y} {y : Y} (h : Moved ((repBlock g T).and O) w F (cs, y) wr) (ht : Touch (fun k => k = g) wr w') (hc : w'.heap[g]? = some (.cells cs' T (0, 0))) : Moved ((repBlock g T).and O) w F (cs', y) w' := by
  obtain ⟨F1, hF, hm⟩ := h.fstM
  exact hm _ _ ⟨F1, ⟨hF.1, hc⟩, ht.mono fun k hk => .inl ((hF.1 k).2 hk), Fresh.refl _ _⟩
theorem Moved.cell0 {Y : Type} {O : Rep Y} {y : Y} (h : Moved ((repBlock g T).and O) w F (cs, y) wr) : wr.heap[g]? = some (.cells cs T (0, 0)) := by
  obtain ⟨F1, hF, _⟩ := h.fstM
  exact hF.2
end
abbrev CR (g : Nat) : Rep (Array Value × (Value × List Record)) := (repBlock g 58).and (repOwn 49)
abbrev repChest (g : Nat) : Rep (List Record) := repHolds g 58 49
def CPost (w : World) (g : Nat) (F : Nat → Prop) (r : (Answer × Int × Int) × List Record) (e : Ending) (w' : World) : Prop :=
  e = .returned (.tuple #[.agg r.1.1.cells, .int .i64 r.1.2.1, .int .i64 r.1.2.2]) ∧ Moved (repChest g) w F r.2 w'
set_option maxHeartbeats 1000000 in
set_option maxRecDepth 100000 in
theorem chest_call_range (w : World) (g : Nat) (F : Nat → Prop) (L : List Record) (client no : Int) (c : Call) (h : (repChest g).on w F L) (hr : client < 0 ∨ 3 ≤ client ∨ no < 1 ∨ 200 < no) :
    Calls Try.prog 62 #[.pointer (some ⟨g, 0, none⟩), .int .i64 client, .int .i64 no, .agg c.cells] w (CPost w g F ((Answer.zero, 0, 9), L)) := by
  have M0 := Lib.hid (Rep.stays h)
  clear h
  by_cases h1 : client < 0
  · skip
    go_enter Try.func62, Try.ntmps62
    go_wp2
    refine bodyPost_ret (results_cell_tmp2 rfl _ _ ⟨w.heap.size + 1, 0, none⟩ (.agg Answer.zero.cells) rfl (load_block isAnswer (heap_alloc_at _ _ _ (by simp)))) rfl ?_
    exact ⟨rfl, M0.out.behind (((Touch.refl _ w).alloc _).alloc _)⟩
  by_cases h2 : 3 ≤ client
  · skip
    go_enter Try.func62, Try.ntmps62
    go_wp2
    refine bodyPost_ret (results_cell_tmp2 rfl _ _ ⟨w.heap.size + 1, 0, none⟩ (.agg Answer.zero.cells) rfl (load_block isAnswer (heap_alloc_at _ _ _ (by simp)))) rfl ?_
    exact ⟨rfl, M0.out.behind (((Touch.refl _ w).alloc _).alloc _)⟩
  by_cases h3 : no < 1
  · skip
    go_enter Try.func62, Try.ntmps62
    go_wp2
    refine bodyPost_ret (results_cell_tmp2 rfl _ _ ⟨w.heap.size + 1, 0, none⟩ (.agg Answer.zero.cells) rfl (load_block isAnswer (heap_alloc_at _ _ _ (by simp)))) rfl ?_
    exact ⟨rfl, M0.out.behind (((Touch.refl _ w).alloc _).alloc _)⟩
  have h4 : 200 < no := by omega
  go_enter Try.func62, Try.ntmps62
  go_wp2
  refine bodyPost_ret (results_cell_tmp2 rfl _ _ ⟨w.heap.size + 1, 0, none⟩ (.agg Answer.zero.cells) rfl (load_block isAnswer (heap_alloc_at _ _ _ (by simp)))) rfl ?_
  exact ⟨rfl, M0.out.behind (((Touch.refl _ w).alloc _).alloc _)⟩
set_option maxHeartbeats 1000000 in
set_option maxRecDepth 100000 in
theorem chest_call_check (w : World) (g : Nat) (F : Nat → Prop) (L : List Record) (client no : Int) (c : Call) (n : Int) (h : (repChest g).on w F L) (hr : ¬ (client < 0 ∨ 3 ≤ client ∨ no < 1 ∨ 200 < no)) (hst : StrCall c) (hc : callCode c = n) (hn : n ≠ 0) :
    Calls Try.prog 62 #[.pointer (some ⟨g, 0, none⟩), .int .i64 client, .int .i64 no, .agg c.cells] w (CPost w g F ((Answer.zero, 0, n), L)) := by
  have hn' : (n != 0) = true := by simp [hn]
  have M0 := Lib.hid (Rep.stays h)
  have h1 : ¬ client < 0 := by omega
  have h2 : ¬ 3 ≤ client := by omega
  have h3 : ¬ no < 1 := by omega
  have h4 : ¬ 200 < no := by omega
  have HST := Lib.hid hst
  have HC := Lib.hid hc
  clear hst hc
  go_enter Try.func62, Try.ntmps62
  go_wp2_with fail
  have m2 := (M0.out.box c.cells 31).box Answer.zero.cells 28
  simp only [World.size_alloc] at m2
  have M2 := Lib.hid m2
  clear m2
  generalize (w.alloc (.cells c.cells 31)).alloc (.cells Answer.zero.cells 28) = w2 at M2 ⊢
  obtain ⟨bc, hbc⟩ : ∃ bc, w.heap.size = bc := ⟨_, rfl⟩
  obtain ⟨ba, hba⟩ : ∃ ba, w.heap.size + 1 = ba := ⟨_, rfl⟩
  have nab : (ba = bc) = False := by simp; omega
  have nba : (bc = ba) = False := by simp; omega
  rw [hba] at M2 ⊢
  try rw [hba] at nsa'
  try rw [hbc] at hgb
  rw [hbc] at M2 ⊢
  clear hba hbc
  refine (ref_fault' w2 c n HC.out HST.out).mono ?_
  rintro e w4 ⟨rfl, hx4⟩
  have M4 := Lib.hid (M2.out.behind hx4)
  have hba4 := M4.out.blk
  have hba5 := setRow_heap _ _ _ Answer.zero.cells _ _ hba4
  have M5 := Lib.hid (M4.out.turnB (w' := w4.setRow ba Answer.zero.cells) ((Touch.refl (fun k => k = ba) w4).setRow (.inl rfl) _) hba5).left.left
  clear hx4 M2
  go_wp2
  refine bodyPost_ret (results_cell_tmp2 rfl _ _ ⟨ba, 0, none⟩ (.agg Answer.zero.cells) rfl (load_block isAnswer hba5)) rfl ?_
  exact ⟨rfl, M5.out⟩
set_option maxHeartbeats 2000000 in
set_option maxRecDepth 100000 in
theorem chest_call_ask (w : World) (g : Nat) (F : Nat → Prop) (L : List Record) (client no : Int) (c : Call) (h : (repChest g).on w F L) (hL : LogOk L) (hr : ¬ (client < 0 ∨ 3 ≤ client ∨ no < 1 ∨ 200 < no)) (hst : StrCall c) (hc : callCode c = 0) (hk : ¬ (1 ≤ c.kind ∧ c.kind ≤ 4)) :
    Calls Try.prog 62 #[.pointer (some ⟨g, 0, none⟩), .int .i64 client, .int .i64 no, .agg c.cells] w (CPost w g F (((fdo (fbehind L) c).1, 0, 0), L)) := by
  obtain ⟨v, hS⟩ := holds_parts h (by decide)
  have M0 := Lib.hid (Rep.stays hS)
  obtain ⟨A, c0, rfl, _⟩ := M0.out.own3.form
  have HK := Lib.hid hk
  have hlen := log_len hL.each
  have hlog := hL.len
  have HLS := Lib.hid (show ∀ r ∈ L, StrCall r.call from fun r hr => recok_str (hL.each r hr))
  have HDO := Lib.hid (show (ddo (dbehind L) c).1 = (fdo (fbehind L) c).1 from (fdo_ddo (behind_srt L) c).1.symm)
  have hgb : g < w.heap.size := (Array.getElem?_eq_some_iff.1 M0.out.cell0).1
  have nsa' : (g = w.heap.size + 1) = False := by simp; omega
  clear hS hk h hL
  have h1 : ¬ client < 0 := by omega
  have h2 : ¬ 3 ≤ client := by omega
  have h3 : ¬ no < 1 := by omega
  have h4 : ¬ 200 < no := by omega
  have HST := Lib.hid hst
  have HC := Lib.hid hc
  clear hst hc
  go_enter Try.func62, Try.ntmps62
  go_wp2_with fail
  have m2 := (M0.out.box c.cells 31).box Answer.zero.cells 28
  simp only [World.size_alloc] at m2
  have M2 := Lib.hid m2
  clear m2
  generalize (w.alloc (.cells c.cells 31)).alloc (.cells Answer.zero.cells 28) = w2 at M2 ⊢
  obtain ⟨bc, hbc⟩ : ∃ bc, w.heap.size = bc := ⟨_, rfl⟩
  obtain ⟨ba, hba⟩ : ∃ ba, w.heap.size + 1 = ba := ⟨_, rfl⟩
  have nab : (ba = bc) = False := by simp; omega
  have nba : (bc = ba) = False := by simp; omega
  rw [hba] at M2 ⊢
  try rw [hba] at nsa'
  try rw [hbc] at hgb
  rw [hbc] at M2 ⊢
  clear hba hbc
  refine (ref_fault' w2 c 0 HC.out HST.out).mono ?_
  rintro e w3 ⟨rfl, hx3⟩
  have M3 := Lib.hid (M2.out.behind hx3)
  have hbc3 := M3.out.left.blk
  have hcc3 := cell_of hbc3 0
  have hcg3 := cell_of M3.out.left.left.cell0 0
  replace hcg3 : w3.cell? ⟨g, 0, none⟩ = some (.slice A L.length c0) := hcg3
  clear hx3 M2 hgb
  go_wp2_with (go_at_call 32; refine (ref_ischange' _ c.kind false (by have := HK.out; simp; omega)).mono ?_; rintro e w4 ⟨rfl, rfl⟩)
  go_region_held3 (fun w' => w'.cell? ⟨g, 0, none⟩ = some (.slice A L.length c0) ∧ w'.heap[bc]? = some (.cells c.cells 31 (0, 0)))
    (first | exact ⟨(cell_setRow_other _ _ _ _ _ nsa').trans hcg5, (heap_setRow' _ _ _ _ nba).trans hbc5⟩ | exact ⟨hcg5, hbc5⟩ | exact ⟨hcg4, hbc4⟩ | exact ⟨hcg3, hbc3⟩)
    (first
      | (go_at_call 24
         have m3 := M3.out.behind (Touch.drew (Touch.refl _ w3))
         refine (ref_behind _ w3.heap.size A _ c0 L m3.left.left.own3.reads (Nat.le_refl _) rfl HLS.out (by omega)).mono ?_
         rintro e w4 ⟨gd, rfl, hd4⟩
         have M4 := Lib.hid (m3.beside hd4)
         have hbc4 := M4.out.left.left.blk
         have hcg4 : w4.cell? ⟨g, 0, none⟩ = some (.slice A L.length c0) := cell_of M4.out.left.left.left.cell0 0
         clear m3 hd4)
      | (go_at_call 61
         obtain ⟨F5, hF5, hm5⟩ := M4.out.sndM
         refine (drawer_do _ gd F5 (dbehind L) c hF5 (behind_dok L) HST.out).mono ?_
         rintro e w5 ⟨rfl, hq5⟩
         have M5 := Lib.hid (hm5 _ _ hq5).left
         rw [HDO.out]
         have hbc5 := M5.out.left.blk
         have hba5 := M5.out.blk
         have hcg5 : w5.cell? ⟨g, 0, none⟩ = some (.slice A L.length c0) := cell_of M5.out.left.left.cell0 0
         clear hF5 hm5 hq5 M4))
  have hba6 := setRow_heap _ _ _ (fdo (fbehind L) c).1.cells _ _ hba5
  have M6 := Lib.hid (M5.out.turnB (w' := w5.setRow ba (fdo (fbehind L) c).1.cells) ((Touch.refl (fun k => k = ba) w5).setRow (.inl rfl) _) hba6).left.left
  go_wp2
  refine bodyPost_ret (results_cell_tmp2 rfl _ _ ⟨ba, 0, none⟩ (.agg (fdo (fbehind L) c).1.cells) rfl (load_block isAnswer hba6)) rfl ?_
  exact ⟨rfl, M6.out.holds⟩
end Go.Proofs.Ytalfbhhldfffkab
