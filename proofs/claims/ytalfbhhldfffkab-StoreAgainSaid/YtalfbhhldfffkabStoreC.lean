/- StoreC: the walks of storeStep and greatStore; the walk of storeBegun; what the laws of a store hold: a store and the document's beside it. -/
import Derived.Test.YtalfbhhldfffkabStoreB
import Derived.Test.YtalfbhhldfffkabFilesBegun
import Derived.Test.YtalfbhhldfffkabRead

namespace Go.Proofs.Ytalfbhhldfffkab
open Go.RowKit

def stepL (L : List Record) (x : StoreStep) : List Record :=
  if x.do_ = 0 then (chestCall L x.client x.no x.call).2 else if x.do_ = 1 then (chestTear L x.client x.no x.call x.keep).2 else L
def stepsL (L : List Record) (l : List StoreStep) : List Record := l.foldl stepL L
theorem stepL_ok {L : List Record} (h : LogOk L) (x : StoreStep) : LogOk (stepL L x) := by
  unfold stepL
  split
  · exact chestCall_ok h _ _ _
  · split
    · exact chestTear_ok h _ _ _ _
    · exact h
theorem stepsL_ok {L : List Record} (h : LogOk L) (l : List StoreStep) : LogOk (stepsL L l) := by
  unfold stepsL
  induction l generalizing L with
  | nil => exact h
  | cons x l ih => exact ih (stepL_ok h x)
theorem stepsL_take {L : List Record} {l : List StoreStep} {k : Nat} {x : StoreStep} (h : l[k]? = some x) : stepsL L (l.take (k + 1)) = stepL (stepsL L (l.take k)) x := by
  unfold stepsL
  rw [take_next h]
  simp
structure StrStep (x : StoreStep) : Prop where
  call : StrCall x.call
  keep : I64 x.keep

section
variable {X Y Z V : Type} {R : Rep X} {S : Rep Y} {O : Rep Z} {Q : Rep V} {w w' wr : World} {F : Nat → Prop} {x x' : X} {y y' : Y} {z : Z} {q : V}
theorem Moved.snd4 (h : Moved (((R.and S).and O).and Q) w F (((x, y), z), q) wr) : ∃ F', S.on wr F' y ∧ ∀ y' w', Moved S wr F' y' w' → Moved (((R.and S).and O).and Q) w F (((x, y'), z), q) w' := by
  obtain ⟨Fa, hFa, hma⟩ := h.fstM
  obtain ⟨F1, hF1, hm1⟩ := (Rep.stays hFa).p2
  exact ⟨F1, hF1, fun x' w' m => hma _ _ (hm1 _ _ m)⟩
end
abbrev Both (gs gr : Nat) : Rep (List Record × List Record) := (repStore gs).and (repChest gr)
def StepPost (w : World) (gs gr : Nat) (F : Nat → Prop) (L' : List Record) (e : Ending) (w' : World) : Prop := e = .returned (.bool true) ∧ Moved (Both gs gr) w F (L', L') w'
set_option maxHeartbeats 2000000 in
set_option maxRecDepth 100000 in
theorem law_storeStep (w : World) (gs gr : Nat) (F : Nat → Prop) (L : List Record) (x : StoreStep) (h : (Both gs gr).on w F (L, L)) (hL : LogOk L) (hx : StrStep x) :
    Calls Try.prog 27 #[.pointer (some ⟨gs, 0, none⟩), .pointer (some ⟨gr, 0, none⟩), .agg x.cells] w (StepPost w gs gr F (stepL L x)) := by
  have M0 := Lib.hid (Rep.stays h)
  have HL := Lib.hid hL
  have HX := Lib.hid hx.call
  have HK := Lib.hid hx.keep
  have m1 := M0.out.box x.cells 61
  have M1 := Lib.hid m1
  have hb1 := M1.out.blk
  have hc0 := cell_of hb1 0
  have hc1 := cell_of hb1 1
  have hc2 := cell_of hb1 2
  have hc3 := cell_of hb1 3
  clear h hL hx m1
  by_cases e0 : x.do_ = 0
  · have HS := Lib.hid (show stepL L x = (chestCall L x.client x.no x.call).2 by unfold stepL; rw [if_pos e0])
    have e0' : (x.do_ == 0) = true := by simp [e0]
    clear e0
    go_enter Try.func27, Try.ntmps27
    go_wp2_with fail
    generalize w.alloc (.cells x.cells 61) = w1 at M1 hb1 hc0 hc1 hc2 hc3 ⊢
    generalize w.heap.size = bx at M1 hb1 hc0 hc1 hc2 hc3 ⊢
    obtain ⟨F1, hF1, hm1⟩ := M1.out.p1
    refine (store_calls w1 gs F1 L x.client x.no x.call hF1 HL.out HX.out).mono ?_
    rintro e w2 ⟨rfl, hq2⟩
    have m2 := (hm1 _ _ hq2).box (chestCall L x.client x.no x.call).1.1.cells 28
    have M2 := Lib.hid m2
    have hb2 := M2.out.left.blk
    have hd1 := cell_of hb2 1
    have hd2 := cell_of hb2 2
    have hd3 := cell_of hb2 3
    clear hF1 hm1 hq2 m2 hc0 hc1 hc2 hc3 hb1 M1
    go_wp2_with fail
    generalize w2.alloc (.cells (chestCall L x.client x.no x.call).1.1.cells 28) = w3 at M2 hb2 hd1 hd2 hd3 ⊢
    generalize w2.heap.size = bq at M2 ⊢
    obtain ⟨F3, hF3, hm3⟩ := M2.out.snd4
    refine (chest_call w3 gr F3 L x.client x.no x.call hF3 HL.out HX.out).mono ?_
    rintro e w4 ⟨rfl, hq4⟩
    have M4 := Lib.hid (hm3 _ _ hq4)
    have hb4 := M4.out.blk
    obtain ⟨lt4, _⟩ := Array.getElem?_eq_some_iff.1 hb4
    generalize chestCall L x.client x.no x.call = R at *
    have M5 := Lib.hid (M4.out.left.left.behind ((Touch.refl _ w4).alloc (.cells R.1.1.cells 28)))
    clear hF3 hm3 hq4 M2 hb2 hd1 hd2 hd3
    go_wp2
    go_ret
    unfold StepPost
    rw [HS.out]
    exact ⟨by first | rfl | simp, M5.out⟩
  by_cases e1 : x.do_ = 1
  · have HS := Lib.hid (show stepL L x = (chestTear L x.client x.no x.call x.keep).2 by unfold stepL; rw [if_neg e0, if_pos e1])
    have e0' : (x.do_ == 0) = false := by simp [e1]
    have e1' : (x.do_ == 1) = true := by simp [e1]
    clear e0 e1
    go_enter Try.func27, Try.ntmps27
    go_wp2_with fail
    generalize w.alloc (.cells x.cells 61) = w1 at M1 hb1 hc0 hc1 hc2 hc3 ⊢
    generalize w.heap.size = bx at M1 hb1 hc0 hc1 hc2 hc3 ⊢
    go_region_held3 (fun w' => w'.heap[bx]? = some (.cells x.cells 61 (0, 0)) ∧ w'.cell? ⟨bx, 1, none⟩ = some (.int .i64 x.client) ∧ w'.cell? ⟨bx, 2, none⟩ = some (.int .i64 x.no) ∧ w'.cell? ⟨bx, 3, none⟩ = some (.int .i64 x.keep))
      (first | exact ⟨hb3, cell_of hb3 1, cell_of hb3 2, cell_of hb3 3⟩ | exact ⟨hb2, cell_of hb2 1, cell_of hb2 2, cell_of hb2 3⟩ | exact ⟨hb1, hc1, hc2, hc3⟩)
      (first
        | (go_at_call 35
           obtain ⟨F1, hF1, hm1⟩ := (M1.out.behind (Touch.drew (Touch.refl _ w1))).p1
           refine (store_Tear _ gs F1 L x.client x.no x.call x.keep hF1 HL.out HX.out HK.out).mono ?_
           rintro e w2 ⟨rfl, hq2⟩
           have M2 := Lib.hid (hm1 _ _ hq2)
           have hb2 := M2.out.blk
           clear hF1 hm1 hq2)
        | (go_at_call 63
           obtain ⟨F3, hF3, hm3⟩ := M2.out.p2
           refine (chest_tear _ gr F3 L x.client x.no x.call x.keep hF3 HL.out HX.out).mono ?_
           rintro e w3 ⟨rfl, hq3⟩
           have M3 := Lib.hid (hm3 _ _ hq3)
           have hb3 := M3.out.blk
           clear hF3 hm3 hq3))
    generalize chestTear L x.client x.no x.call x.keep = R at *
    have M5 := Lib.hid M3.out.left
    go_wp2
    go_ret
    unfold StepPost
    rw [HS.out]
    exact ⟨by first | rfl | simp, M5.out⟩
  have HS := Lib.hid (show stepL L x = L by unfold stepL; rw [if_neg e0, if_neg e1])
  have e0' : (x.do_ == 0) = false := by simp [e0]
  have e1' : (x.do_ == 1) = false := by simp [e1]
  clear e0 e1
  by_cases e2 : x.do_ = 2
  · have e2' : (x.do_ == 2) = true := by simp [e2]
    clear e2
    go_enter Try.func27, Try.ntmps27
    go_wp2_with fail
    generalize w.alloc (.cells x.cells 61) = w1 at M1 hb1 hc0 hc1 hc2 hc3 ⊢
    obtain ⟨F1, hF1, hm1⟩ := M1.out.p1
    have hlog := HL.out.len
    refine (store_crash w1 gs F1 (chestD L) hF1 (by show (logBytes L).length ≤ 10000; omega)).mono ?_
    rintro e w2 ⟨rfl, hq2⟩
    rw [show recAll (chestD L).log = L from log_all HL.out] at hq2
    have M2 := Lib.hid (hm1 _ _ (Moved.chest hq2 rfl)).left
    clear hF1 hm1 hq2
    go_wp2
    go_ret
    unfold StepPost
    rw [HS.out]
    exact ⟨by first | rfl | simp, M2.out⟩
  · have e2' : (x.do_ == 2) = false := by simp [e2]
    clear e2
    go_enter Try.func27, Try.ntmps27
    go_wp2
    go_ret
    unfold StepPost
    rw [HS.out]
    exact ⟨by first | rfl | simp, M1.out.left⟩

def GreatStore (W : World) (e : Ending) (w' : World) : Prop := ∃ b : Bool, e = .returned (.bool b) ∧ Ext W w'
set_option maxHeartbeats 1000000 in
set_option maxRecDepth 100000 in
theorem law_greatStore (W : World) (B : Nat) (A : Option Addr) (c : Nat) (l : List StoreStep) (hr : Reads W B A l) (hB : B ≤ W.heap.size) (hs : ∀ x ∈ l, StrStep x) (hl : l.length ≤ 140737488351232) :
    Calls Try.prog 20 #[.slice A l.length c] W (GreatStore W) := by
  have HR := Lib.hid hr
  have HB := Lib.hid hB
  have HS := Lib.hid hs
  clear hr hs hB
  go_enter Try.func20, Try.ntmps20
  go_wp2_with fail
  go_loopw [3] (fun i wr => ∃ k : Nat, i = .int .i64 k ∧ k ≤ l.length ∧ Ext W wr) (fun i _ => l.length - (intOf i).toNat)
  case atStart => exact ⟨0, rfl, Nat.zero_le _, Touch.refl _ W⟩
  case round =>
    obtain ⟨k, rfl, hk, hx⟩ := hrel
    have HX := Lib.hid hx
    clear hx
    by_cases hlt : k < l.length
    · by_cases h200 : k < 200
      · have h200' : (k : Int) < 200 := by omega
        obtain ⟨x, hx⟩ : ∃ x, l[k]? = some x := ⟨l[k], by simp [hlt]⟩
        obtain ⟨ad, rfl, hadb, hat⟩ := HR.out _ x hx
        have hadk : (ad.add (k * 8)).block = ad.block := by unfold Addr.add; split <;> rfl
        replace hat : At W (ad.add (k * 8)) x := hat
        have h1 : At wr (ad.add (k * 8)) x := hat.of_same (HX.out.block _ (by rw [hadk]; exact Nat.lt_of_lt_of_le hadb HB.out) id)
        have h2 := objPart_at h1 x.call 4 x.part_call
        replace h2 : objPart ((ad.add (k * 8)).off + 4) 4 (wr.heap[(ad.add (k * 8)).block]?) = some x.call.cells := h2
        have HST := Lib.hid (HS.out x (List.mem_of_getElem? hx)).call
        clear hx hat h1 hadk
        cases hg : greatB x.call with
        | true =>
          have HG := Lib.hid hg
          clear hg
          go_wp2_with (go_at_call 31; refine (law_greatCall' _ x.call true HG.out HST.out).mono ?_; rintro e w' ⟨rfl, rfl⟩)
          go_ret
          exact ⟨true, rfl, HX.out.alloc _⟩
        | false =>
          have HG := Lib.hid hg
          clear hg
          go_wp2_with (go_at_call 31; refine (law_greatCall' _ x.call false HG.out HST.out).mono ?_; rintro e w' ⟨rfl, rfl⟩)
          go_roundw
          case rel => exact ⟨k + 1, by go_num, by omega, HX.out.alloc _⟩
          case measure => simp [intOf]; omega
      · have h200' : ¬ (k : Int) < 200 := by omega
        have hbig : (120 : Int) < l.length := by omega
        go_wp2
        go_ret
        exact ⟨true, rfl, HX.out⟩
    · obtain rfl : k = l.length := by omega
      by_cases h150 : (120 : Int) < l.length
      · go_wp2
        go_ret
        exact ⟨true, rfl, HX.out⟩
      · go_wp2
        go_ret
        exact ⟨false, by simp, HX.out⟩
end Go.Proofs.Ytalfbhhldfffkab

namespace Go.Proofs.Ytalfbhhldfffkab
open Go.RowKit

theorem store_parts {w : World} {F : Nat → Prop} {gs : Nat} {x : StoreD} (h : (repStoreD gs).on w F x) : ∃ gf u v, StoreAt w gs gf u x ∧ Holds w gf 105 112 v x.fs := by
  obtain ⟨gf, u, hS⟩ := h
  obtain ⟨F2, ⟨v, _, hh⟩, _⟩ := (Rep.stays hS).p2
  exact ⟨gf, u, v, ⟨(Rep.stays hS).cell, (Rep.stays hS).own3⟩, hh⟩
theorem StoreAt.ext {w w' : World} {gs gf : Nat} {u : Value} {x : StoreD} (h : StoreAt w gs gf u x) (hx : Ext w w') : StoreAt w' gs gf u x := ⟨hx.blk h.cell id, h.own.ext hx⟩
theorem NewStore.has {w w' : World} {gs : Nat} {L : List Record} (h : NewStore w (chestD L) gs w') : Has (repStore gs) w w' L := ⟨h.2, h.1⟩
theorem store_calls' (w : World) (gs : Nat) (F : Nat → Prop) (L : List Record) (client no : Int) (c : Call) (R : (Answer × Int × Int) × List Record) (h : (repStore gs).on w F L) (hL : LogOk L) (hst : StrCall c) (hR : chestCall L client no c = R) :
    Calls Try.prog 33 #[.pointer (some ⟨gs, 0, none⟩), .int .i64 client, .int .i64 no, .agg c.cells] w (SPost w gs F R) := by
  subst hR
  exact store_calls w gs F L client no c h hL hst

def sbC1 : Call := ⟨1, ⟨#[97]⟩, ⟨#[]⟩, ⟨#[]⟩⟩
def sbC2 : Call := ⟨1, ⟨#[98]⟩, ⟨#[]⟩, ⟨#[]⟩⟩
def sbR1 : Record := ⟨1, 3, sbC1, ⟨0, ⟨#[]⟩⟩⟩
def sbR2 : Record := ⟨0, 1, sbC1, ⟨5, ⟨#[]⟩⟩⟩
theorem sb1 : chestCall [] 1 3 sbC1 = ((⟨0, ⟨#[]⟩⟩, 9, 0), [sbR1]) := by decide +kernel
theorem sb2 : chestCall [sbR1] 1 3 sbC1 = ((⟨0, ⟨#[]⟩⟩, 0, 0), [sbR1]) := by decide +kernel
theorem sb3 : chestCall [sbR1] 1 2 sbC1 = ((⟨0, ⟨#[]⟩⟩, 0, 10), [sbR1]) := by decide +kernel
theorem sb4 : chestCall [sbR1] 0 1 sbC1 = ((⟨5, ⟨#[]⟩⟩, 9, 0), [sbR1, sbR2]) := by decide +kernel
theorem sb5 : chestTear [sbR1, sbR2] 2 1 sbC2 4 = (0, [sbR1, sbR2]) := by decide +kernel
theorem sbL1 : LogOk [sbR1] := by have h := chestCall_ok LogOk.nil 1 3 sbC1; rwa [sb1] at h
theorem sbL2 : LogOk [sbR1, sbR2] := by have h := chestCall_ok sbL1 0 1 sbC1; rwa [sb4] at h
theorem sbAll : recAll (logBytes [sbR1, sbR2] ++ [1]) = [sbR1, sbR2] := recAll_of ⟨sbL2.each, [1], rfl, by decide +kernel⟩
theorem sbNo1 : lastNo [sbR1, sbR2] 1 = 3 := by decide +kernel
theorem sbNo2 : lastNo [sbR1, sbR2] 2 = 0 := by decide +kernel
theorem sbFs : (fbehind [sbR1, sbR2]).length = 1 := by decide +kernel
theorem sbStr1 : StrCall sbC1 := ⟨by decide, by decide, by decide⟩
theorem sbStr2 : StrCall sbC2 := ⟨by decide, by decide, by decide⟩
theorem sbEq : decide ((⟨0, ⟨#[]⟩⟩ : Answer) = ⟨0, ⟨#[]⟩⟩) = true := by decide +kernel

theorem files_names1 (w : World) (g : Nat) (v : Value) (l : List FileD) (h : Holds w g 105 112 v l) (hl : l.length = 1) :
    Calls Try.prog 17 #[.pointer (some ⟨g, 0, none⟩)] w fun e w' => ∃ A c, e = .returned (.slice A 1 c) ∧ Ext w w' := by
  refine (files_names w g v l h (by omega)).mono ?_
  rintro e w' ⟨A, c, rfl, _, hx, _⟩
  exact ⟨A, c, by rw [List.length_map, hl], hx⟩
set_option maxHeartbeats 4000000 in
set_option maxRecDepth 100000 in
theorem store_begun (W : World) : Calls Try.prog 19 #[] W fun e w' => e = .returned (.bool true) ∧ Ext W w' := by
  go_enter Try.func19, Try.ntmps19
  go_wp2_with fail
  refine (store_new W).mono ?_
  rintro e w0 ⟨rfl, ⟨hx, F, hF, hf⟩, -⟩
  have k0 : Keep (repStore (W.heap.size + 1)) W w0 ([] : List Record) [] := ⟨F, hF, hf, hx, fun p hp => by cases hp⟩
  have K0 := Lib.hid (k0.alloc (.cells sbC1.cells 31))
  clear hx hF hf k0
  generalize W.heap.size + 1 = gs at K0 ⊢
  have hb0 := K0.out.out.2 (w0.heap.size, .cells sbC1.cells 31) (by simp)
  replace hb0 : (w0.alloc (.cells sbC1.cells 31)).heap[w0.heap.size]? = some (.cells sbC1.cells 31 (0, 0)) := hb0
  go_wp2_with fail
  change Calls Try.prog _ _ (w0.alloc (.cells sbC1.cells 31)) _
  generalize w0.alloc (.cells sbC1.cells 31) = w1 at K0 hb0 ⊢
  generalize w0.heap.size = bc at K0 hb0 ⊢
  obtain ⟨F2, hF2, hm2⟩ := K0.out.step
  refine (store_calls' w1 gs F2 [] 1 3 sbC1 _ hF2 LogOk.nil sbStr1 sb1).mono ?_
  rintro e w2 ⟨rfl, hq2⟩
  have K2 := Lib.hid ((hm2 _ _ hq2).alloc (.cells (Answer.cells ⟨0, ⟨#[]⟩⟩) 28))
  have hb2 := K2.out.out.2 (bc, .cells sbC1.cells 31) (by simp)
  replace hb2 : (w2.alloc (.cells (Answer.cells ⟨0, ⟨#[]⟩⟩) 28)).heap[bc]? = some (.cells sbC1.cells 31 (0, 0)) := hb2
  clear hF2 hm2 hq2 hb0
  go_wp2_with fail
  obtain ⟨F3, hF3, hm3⟩ := K2.out.step
  refine (store_calls' _ gs F3 [sbR1] 1 3 sbC1 _ hF3 sbL1 sbStr1 sb2).mono ?_
  rintro e w3 ⟨rfl, hq3⟩
  have K3 := Lib.hid ((hm3 _ _ hq3).alloc (.cells (Answer.cells ⟨0, ⟨#[]⟩⟩) 28))
  have hb3 := K3.out.out.2 (bc, .cells sbC1.cells 31) (by simp)
  replace hb3 : (w3.alloc (.cells (Answer.cells ⟨0, ⟨#[]⟩⟩) 28)).heap[bc]? = some (.cells sbC1.cells 31 (0, 0)) := hb3
  clear hF3 hm3 hq3 hb2 K2
  go_wp2_with fail
  obtain ⟨F4, hF4, hm4⟩ := K3.out.step
  refine (store_calls' _ gs F4 [sbR1] 1 2 sbC1 _ hF4 sbL1 sbStr1 sb3).mono ?_
  rintro e w4 ⟨rfl, hq4⟩
  have K4 := Lib.hid ((hm4 _ _ hq4).alloc (.cells (Answer.cells ⟨0, ⟨#[]⟩⟩) 28))
  have hb4 := K4.out.out.2 (bc, .cells sbC1.cells 31) (by simp)
  replace hb4 : (w4.alloc (.cells (Answer.cells ⟨0, ⟨#[]⟩⟩) 28)).heap[bc]? = some (.cells sbC1.cells 31 (0, 0)) := hb4
  clear hF4 hm4 hq4 hb3 K3
  go_wp2_with fail
  obtain ⟨F5, hF5, hm5⟩ := K4.out.step
  refine (store_calls' _ gs F5 [sbR1] 0 1 sbC1 _ hF5 sbL1 sbStr1 sb4).mono ?_
  rintro e w5 ⟨rfl, hq5⟩
  have K5 := Lib.hid ((hm5 _ _ hq5).alloc (.cells (Answer.cells ⟨5, ⟨#[]⟩⟩) 28))
  have hb5 := K5.out.out.2 (bc, .cells sbC1.cells 31) (by simp)
  replace hb5 : (w5.alloc (.cells (Answer.cells ⟨5, ⟨#[]⟩⟩) 28)).heap[bc]? = some (.cells sbC1.cells 31 (0, 0)) := hb5
  clear hF5 hm5 hq5 hb4 K4
  go_wp2_with fail
  obtain ⟨F6, hF6, hm6⟩ := K5.out.step
  refine (store_Tear _ gs F6 [sbR1, sbR2] 2 1 sbC2 4 hF6 sbL2 sbStr2 ⟨by decide, by decide⟩).mono ?_
  rintro e w6 ⟨rfl, hq6⟩
  rw [sb5] at hq6 ⊢
  have K6 := Lib.hid (hm6 _ _ hq6)
  clear hF6 hm6 hq6 hb5 K5
  go_wp2_with fail
  obtain ⟨F7, hF7, _⟩ := K6.out.step
  obtain ⟨gf7, u7, v7, hA7, hh7⟩ := store_parts hF7
  have hlen7 : (logBytes [sbR1, sbR2]).length ≤ 2000 := sbL2.len
  refine (store_log w6 gs gf7 u7 _ hA7 (by show (logBytes [sbR1, sbR2]).length ≤ 100000; omega)).mono ?_
  rintro e w7 ⟨A7, c7, rfl, ho7, hx7, hf7⟩
  have K7 := Lib.hid (K6.out.ext hx7)
  replace ho7 : Owns w7 5 (.slice A7 (logBytes [sbR1, sbR2]).length c7) (logBytes [sbR1, sbR2]) := ho7
  have HA7 := Lib.hid (hA7.ext hx7)
  have HH7 := Lib.hid (hh7.ext hx7)
  have HO7 := Lib.hid ho7
  replace hf7 : ∀ k, (Value.slice A7 (logBytes [sbR1, sbR2]).length c7).ownBlock = some k → w6.heap.size ≤ k := hf7
  have HF7 := Lib.hid hf7
  have HX7 := Lib.hid hx7
  have HA6 := Lib.hid hA7
  have HH6 := Lib.hid hh7
  clear hF7 hA7 hh7 ho7 hx7 hf7 K7 HA7 HH7
  have HALL := Lib.hid sbAll
  have HLL := Lib.hid (show (chestD [sbR1, sbR2]).log = logBytes [sbR1, sbR2] from rfl)
  rw [HLL.out]
  generalize hM : logBytes [sbR1, sbR2] = M at *
  have HM := Lib.hid hM
  clear hM
  go_wp2_with (first
    | (at_builtin; refine wpList_append_own' (by rfl) (.tmp 47) (.tmp 48) 39 (by rfl) elemByte Try.underlying39 (v := .slice A7 M.length c7) (l := M) (by rfl) (HO7.out.ext ((Touch.refl _ w7).alloc _)) [1] (by rfl) (M.length + 1) (by rfl) (by rfl) (reads_block (x := (1 : UInt8)) (t := 5) (fr := (0, 0)) (heap_alloc_new _ _) (w7.heap.size + 1) (by omega)) (by simp; omega) ?_
       go_loud (
         intro A8 c8 w8 hown8 hgrow8 hat8
         have HO8 := Lib.hid hown8
         have X8 := Lib.hid (show Ext w6 w8 from Touch.grown (HX7.out.alloc _) hgrow8 (fun k hk => .inr (HF7.out k hk)))
         clear hown8 hgrow8 hat8))
    | fail)
  refine (store_open w8 A8 _ c8 (M ++ [1]) HO8.out.bytesIn (by simp; omega)).mono ?_
  rintro e w9 ⟨gx, rfl, hn9⟩
  rw [HALL.out] at hn9 ⊢
  rw [HM.out]
  have hone : (((M ++ [1]).length : Nat) : Int) - (M.length : Int) = 1 := by simp; omega
  have X9 := Lib.hid (X8.out.trans hn9.1)
  have K9 := Lib.hid (K6.out.ext X9.out)
  obtain ⟨_, Fx, hFx, _⟩ := hn9
  obtain ⟨gfx, ux, vx, hAx, hhx⟩ := store_parts hFx
  have HA9 := Lib.hid (HA6.out.ext X9.out)
  have HH9 := Lib.hid (HH6.out.ext X9.out)
  have HHX := Lib.hid hhx
  have hb1 := K9.out.out.2 (w2.heap.size, .cells (Answer.cells ⟨0, ⟨#[]⟩⟩) 28) (by simp)
  have hb2 := K9.out.out.2 (w3.heap.size, .cells (Answer.cells ⟨0, ⟨#[]⟩⟩) 28) (by simp)
  have hb5 := K9.out.out.2 (w5.heap.size, .cells (Answer.cells ⟨5, ⟨#[]⟩⟩) 28) (by simp)
  replace hb1 : w9.heap[w2.heap.size]? = some (.cells (Answer.cells ⟨0, ⟨#[]⟩⟩) 28 (0, 0)) := hb1
  replace hb2 : w9.heap[w3.heap.size]? = some (.cells (Answer.cells ⟨0, ⟨#[]⟩⟩) 28 (0, 0)) := hb2
  replace hb5 : w9.heap[w5.heap.size]? = some (.cells (Answer.cells ⟨5, ⟨#[]⟩⟩) 28 (0, 0)) := hb5
  have hc5 := cell_of hb5 0
  have hcs9 := cell_of HA9.out.cell 0
  rw [StoreD.get0] at hcs9
  have hcx9 := cell_of hAx.cell 0
  rw [StoreD.get0] at hcx9
  have HAX := Lib.hid hAx
  have EX := Lib.hid K9.out.out.1
  clear hFx hAx hhx K6 K9
  have hde := sbEq
  go_wp2_with fail
  refine (store_last w9 gs gf7 u7 [sbR1, sbR2] HA9.out sbL2.each 1).mono ?_
  rw [sbNo1]
  rintro e w10 ⟨rfl, rfl⟩
  go_wp2_with fail
  refine (store_last w9 gs gf7 u7 [sbR1, sbR2] HA9.out sbL2.each 2).mono ?_
  rw [sbNo2]
  rintro e w11 ⟨rfl, rfl⟩
  go_wp2_with fail
  refine (files_names1 w9 gf7 v7 _ HH9.out sbFs).mono ?_
  rintro e w12 ⟨A12, c12, rfl, hx12⟩
  have hcx12 : w12.cell? ⟨gx, 0, none⟩ = some (.pointer (some ⟨gfx, 0, none⟩)) := (cell_of (hx12.blk HAX.out.cell id) 0).trans (StoreD.get0 _ _ _)
  have HX12 := Lib.hid hx12
  clear hx12 hcx9 hcs9 hc5 hb1 hb2 hb5
  go_wp2_with fail
  refine (files_names1 w12 gfx vx _ (HHX.out.ext HX12.out) sbFs).mono ?_
  rintro e w13 ⟨A13, c13, rfl, hx13⟩
  have HX13 := Lib.hid hx13
  clear hx13
  go_wp2
  go_ret
  exact ⟨rfl, EX.out.trans (HX12.out.trans HX13.out)⟩
end Go.Proofs.Ytalfbhhldfffkab

namespace Go.Proofs.Ytalfbhhldfffkab
open Go.RowKit

section
variable {X Y Z V K : Type} {S : Rep Y} {R : Rep X} {O : Rep Z} {Q : Rep V} {J : Rep K} {W w : World} {y : Y} {a : X} {b : Z} {q : V} {k : K}
theorem Has.b2 (h : Has (S.and (R.and O)) W w (y, (a, b))) : ∃ F, R.on w F a ∧ ∀ a' w', Moved R w F a' w' → Has (S.and (R.and O)) W w' (y, (a', b)) := by
  obtain ⟨F, hF, hm⟩ := h.snd
  obtain ⟨F1, hF1, hm1⟩ := Rep.fst hF
  exact ⟨F1, hF1, fun _ _ m => hm _ _ (hm1 _ _ m)⟩
theorem Has.b1 (h : Has ((S.and (R.and O)).and Q) W w ((y, (a, b)), q)) : ∃ F, R.on w F a ∧ ∀ a' w', Moved R w F a' w' → Has ((S.and (R.and O)).and Q) W w' ((y, (a', b)), q) := by
  obtain ⟨F, hF, hm⟩ := h.fs
  obtain ⟨F1, hF1, hm1⟩ := Rep.fst hF
  exact ⟨F1, hF1, fun _ _ m => hm _ _ (hm1 _ _ m)⟩
theorem Has.b0 (h : Has (((S.and (R.and O)).and Q).and J) W w (((y, (a, b)), q), k)) : ∃ F, R.on w F a ∧ ∀ a' w', Moved R w F a' w' → Has (((S.and (R.and O)).and Q).and J) W w' (((y, (a', b)), q), k) := by
  obtain ⟨F, hF, hm⟩ := h.ff
  obtain ⟨F1, hF1, hm1⟩ := Rep.snd hF
  obtain ⟨F2, hF2, hm2⟩ := Rep.fst hF1
  exact ⟨F2, hF2, fun _ _ m => hm _ _ (hm1 _ _ (hm2 _ _ m))⟩
end
theorem chest_start (w : World) : Has (repChest w.heap.size) w (w.alloc (.cells #[.slice none 0 0] 58)) ([] : List Record) := by
  have h : Has (repNone.and (repChest w.heap.size)) w (w.alloc (.cells #[.slice none 0 0] 58)) ((), ([] : List Record)) :=
    (Has.none w).beside (G := foot w.heap.size (.slice none 0 0)) ((Touch.refl _ w).alloc _) ⟨_, fun _ => Iff.rfl, Holds.new w _ _⟩ (foot_new w)
  exact h.right
theorem both_start {w w' : World} {gs : Nat} (h : NewStore w (chestD []) gs w') : Has (Both gs w'.heap.size) w (w'.alloc (.cells #[.slice none 0 0] 58)) (([] : List Record), ([] : List Record)) := h.has.both (chest_start w')
/-- string(b) of what was told -/
theorem conv_log {w : World} {A : Option Addr} {c : Nat} {l : List UInt8} (h : Owns w 5 (.slice A l.length c) l) : (convert 39 9 (.slice A l.length c)).run Try.prog w = .ok (.string (mkStr l)) w :=
  run_convert_reads (P := Try.prog) Try.underlying39 Try.underlying5 Try.underlying9 h.reads c
theorem store_logs (w : World) (gs : Nat) (F : Nat → Prop) (L : List Record) (h : (repStore gs).on w F L) (hL : LogOk L) :
    Calls Try.prog 23 #[.pointer (some ⟨gs, 0, none⟩)] w (NewList w 5 (logBytes L)) := by
  obtain ⟨gf, u, v, hA, _⟩ := store_parts h
  exact store_log w gs gf u (chestD L) hA (by have := hL.len; show (logBytes L).length ≤ 100000; omega)
theorem store_log_at (w : World) (gs gf : Nat) (u : Value) (L : List Record) (h : StoreAt w gs gf u (chestD L)) (hL : LogOk L) :
    Calls Try.prog 23 #[.pointer (some ⟨gs, 0, none⟩)] w (NewList w 5 (logBytes L)) :=
  store_log w gs gf u (chestD L) h (by have := hL.len; show (logBytes L).length ≤ 100000; omega)
theorem store_last_of (w : World) (gs : Nat) (F : Nat → Prop) (L : List Record) (h : (repStore gs).on w F L) (hL : LogOk L) (client : Int) :
    Calls Try.prog 30 #[.pointer (some ⟨gs, 0, none⟩), .int .i64 client] w fun e w' => e = .returned (.int .i64 (lastNo L client)) ∧ w = w' := by
  obtain ⟨gf, u, v, hA, _⟩ := store_parts h
  exact store_last w gs gf u L hA hL.each client
theorem mkStr_eq (a b : List UInt8) : ((mkStr a).toList == (mkStr b).toList) = decide (a = b) := by
  rw [mkStr_toList, mkStr_toList]
  by_cases h : a = b <;> simp [h]
/-- a torn call, and again -/
theorem tear_again {L : List Record} {client no : Int} {c : Call} {keep : Int} (h0 : (chestCall L client no c).1.2.2 = 0) :
    (chestCall (chestTear L client no c keep).2 client no c).1.1 = (chestCall L client no c).1.1 ∧ (chestCall (chestTear L client no c keep).2 client no c).1.2.2 = 0 ∧
    (chestCall (chestTear L client no c keep).2 client no c).2 = (chestCall L client no c).2 ∧ ((chestTear L client no c keep).2 = L ∨ (chestTear L client no c keep).2 = (chestCall L client no c).2) := by
  have hcases : (chestTear L client no c keep).2 = L ∨ (chestTear L client no c keep).2 = (chestCall L client no c).2 := by
    unfold chestTear
    by_cases h : (chestCall L client no c).1.2.2 = 0 ∧ 0 < (chestCall L client no c).1.2.1 ∧ keep < (chestCall L client no c).1.2.1
    · exact .inl (if_pos h)
    · exact .inr (if_neg h)
  rcases hcases with h | h
  · rw [h]
    exact ⟨rfl, h0, rfl, .inl rfl⟩
  · rw [h]
    by_cases hk : 1 ≤ c.kind ∧ c.kind ≤ 4
    · obtain ⟨hc, x, hx, e1, e2, e3⟩ := chest_last h0 hk
      rw [chest_again hc hk hx e1 e2]
      exact ⟨e3, rfl, rfl, .inr rfl⟩
    · rw [chest_same (.inr hk)]
      exact ⟨rfl, h0, chest_same (.inr hk), .inl rfl⟩
theorem chestTear_code {L : List Record} {client no : Int} {c : Call} {keep : Int} (h : (chestCall L client no c).1.2.2 ≠ 0) : (chestTear L client no c keep).2 = L := by
  unfold chestTear
  rw [if_neg (fun e => h e.1)]
  exact chest_same (.inl h)
abbrev SS (b : Nat) : Rep (Unit × Array Value) := repNone.and (repBlock b 61)
theorem str_step {x : StoreStep} (h : StoreStep.Ok x) : StrStep x := ⟨⟨h.2.2.2.2.2.1, h.2.2.2.2.2.2.1, h.2.2.2.2.2.2.2⟩, h.2.2.2.1⟩
theorem wpAnyH_more {P : Program} {ops : Array Oper} {Q : Exit → Act → World → Prop} {md : Region.Mode} {S S' : World → Prop} (hS : ∀ w, S' w → S w) :
    ∀ (fuel : Nat) (listed : Array Bool) (a : Act) (w : World), wpAnyH P md ops Q S' fuel listed a w → wpAnyH P md ops Q S fuel listed a w
  | 0, _, _, _, h => h
  | fuel + 1, _, _, _, h => ⟨h.1, fun i hi => wpOp_mono (fun a' w' h' => ⟨hS w' h'.1, wpAnyH_more hS fuel _ a' w' h'.2⟩) (h.2 i hi)⟩
end Go.Proofs.Ytalfbhhldfffkab
