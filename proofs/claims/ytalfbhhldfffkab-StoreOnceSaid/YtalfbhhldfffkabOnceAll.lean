/- OnceAll: the walk of storeStep where the two hold what they hold; the walk of the law. -/
import Derived.Test.YtalfbhhldfffkabStoreC

namespace Go.Proofs.Ytalfbhhldfffkab
open Go.RowKit

def StepPost2 (w : World) (gs gr : Nat) (F : Nat → Prop) (L M : List Record) (e : Ending) (w' : World) : Prop := ∃ b : Bool, e = .returned (.bool b) ∧ Moved (Both gs gr) w F (L, M) w'
set_option maxHeartbeats 2000000 in
set_option maxRecDepth 100000 in
theorem law_storeStep2 (w : World) (gs gr : Nat) (F : Nat → Prop) (L M : List Record) (x : StoreStep) (h : (Both gs gr).on w F (L, M)) (hL : LogOk L) (hM : LogOk M) (hx : StrStep x) :
    Calls Try.prog 27 #[.pointer (some ⟨gs, 0, none⟩), .pointer (some ⟨gr, 0, none⟩), .agg x.cells] w (StepPost2 w gs gr F (stepL L x) (stepL M x)) := by
  have M0 := Lib.hid (Rep.stays h)
  have HL := Lib.hid hL
  have HM := Lib.hid hM
  have HX := Lib.hid hx.call
  have HK := Lib.hid hx.keep
  have m1 := M0.out.box x.cells 61
  have M1 := Lib.hid m1
  have hb1 := M1.out.blk
  have hc0 := cell_of hb1 0
  have hc1 := cell_of hb1 1
  have hc2 := cell_of hb1 2
  have hc3 := cell_of hb1 3
  clear h hL hM hx m1
  by_cases e0 : x.do_ = 0
  · have HS := Lib.hid (show stepL L x = (chestCall L x.client x.no x.call).2 ∧ stepL M x = (chestCall M x.client x.no x.call).2 by unfold stepL; rw [if_pos e0, if_pos e0]; exact ⟨rfl, rfl⟩)
    have e0' : (x.do_ == 0) = true := by simp [e0]
    clear e0
    go_enter Try.func27, Try.ntmps27
    go_wp2_with fail
    generalize w.alloc (.cells x.cells 61) = w1 at M1 hb1 hc0 hc1 hc2 hc3 ⊢
    generalize w.heap.size = bx at M1 hb1 hc0 hc1 hc2 hc3 ⊢
    obtain ⟨F1, hF1, hm1⟩ := M1.out.p1
    refine (store_calls w1 gs F1 L x.client x.no x.call hF1 HL.out HX.out).mono ?_
    rintro e w2 ⟨rfl, hq2⟩
    have m2 := (hm1 _ _ hq2).box (chestCall L x.client x.no x.call).1.1.cells 28
    have M2 := Lib.hid m2
    have hb2 := M2.out.left.blk
    have hd1 := cell_of hb2 1
    have hd2 := cell_of hb2 2
    have hd3 := cell_of hb2 3
    clear hF1 hm1 hq2 m2 hc0 hc1 hc2 hc3 hb1 M1
    go_wp2_with fail
    generalize w2.alloc (.cells (chestCall L x.client x.no x.call).1.1.cells 28) = w3 at M2 hb2 hd1 hd2 hd3 ⊢
    generalize w2.heap.size = bq at M2 ⊢
    obtain ⟨F3, hF3, hm3⟩ := M2.out.snd4
    refine (chest_call w3 gr F3 M x.client x.no x.call hF3 HM.out HX.out).mono ?_
    rintro e w4 ⟨rfl, hq4⟩
    have M4 := Lib.hid (hm3 _ _ hq4)
    have hb4 := M4.out.blk
    obtain ⟨lt4, _⟩ := Array.getElem?_eq_some_iff.1 hb4
    generalize chestCall L x.client x.no x.call = R at *
    generalize chestCall M x.client x.no x.call = R' at *
    have M5 := Lib.hid (M4.out.left.left.behind ((Touch.refl _ w4).alloc (.cells R'.1.1.cells 28)))
    clear hF3 hm3 hq4 M2 hb2 hd1 hd2 hd3
    by_cases hab : R.1.1 = R'.1.1
    · have hab' : (R.1.1 = R'.1.1) = True := eq_true hab
      clear hab
      go_wp2
      go_ret
      unfold StepPost2
      rw [HS.out.1, HS.out.2]
      exact ⟨_, rfl, M5.out⟩
    · have hab' : (R.1.1 = R'.1.1) = False := eq_false hab
      clear hab
      go_wp2
      go_ret
      unfold StepPost2
      rw [HS.out.1, HS.out.2]
      exact ⟨_, rfl, M5.out⟩
  by_cases e1 : x.do_ = 1
  · have HS := Lib.hid (show stepL L x = (chestTear L x.client x.no x.call x.keep).2 ∧ stepL M x = (chestTear M x.client x.no x.call x.keep).2 by unfold stepL; rw [if_neg e0, if_pos e1, if_neg e0, if_pos e1]; exact ⟨rfl, rfl⟩)
    have e0' : (x.do_ == 0) = false := by simp [e1]
    have e1' : (x.do_ == 1) = true := by simp [e1]
    clear e0 e1
    go_enter Try.func27, Try.ntmps27
    go_wp2_with fail
    generalize w.alloc (.cells x.cells 61) = w1 at M1 hb1 hc0 hc1 hc2 hc3 ⊢
    generalize w.heap.size = bx at M1 hb1 hc0 hc1 hc2 hc3 ⊢
    go_region_held3 (fun w' => w'.heap[bx]? = some (.cells x.cells 61 (0, 0)) ∧ w'.cell? ⟨bx, 1, none⟩ = some (.int .i64 x.client) ∧ w'.cell? ⟨bx, 2, none⟩ = some (.int .i64 x.no) ∧ w'.cell? ⟨bx, 3, none⟩ = some (.int .i64 x.keep))
      (first | exact ⟨hb3, cell_of hb3 1, cell_of hb3 2, cell_of hb3 3⟩ | exact ⟨hb2, cell_of hb2 1, cell_of hb2 2, cell_of hb2 3⟩ | exact ⟨hb1, hc1, hc2, hc3⟩)
      (first
        | (go_at_call 35
           obtain ⟨F1, hF1, hm1⟩ := (M1.out.behind (Touch.drew (Touch.refl _ w1))).p1
           refine (store_Tear _ gs F1 L x.client x.no x.call x.keep hF1 HL.out HX.out HK.out).mono ?_
           rintro e w2 ⟨rfl, hq2⟩
           have M2 := Lib.hid (hm1 _ _ hq2)
           have hb2 := M2.out.blk
           clear hF1 hm1 hq2)
        | (go_at_call 63
           obtain ⟨F3, hF3, hm3⟩ := M2.out.p2
           refine (chest_tear _ gr F3 M x.client x.no x.call x.keep hF3 HM.out HX.out).mono ?_
           rintro e w3 ⟨rfl, hq3⟩
           have M3 := Lib.hid (hm3 _ _ hq3)
           have hb3 := M3.out.blk
           clear hF3 hm3 hq3))
    generalize chestTear L x.client x.no x.call x.keep = R at *
    generalize chestTear M x.client x.no x.call x.keep = R' at *
    have M5 := Lib.hid M3.out.left
    go_wp2
    go_ret
    unfold StepPost2
    rw [HS.out.1, HS.out.2]
    exact ⟨_, rfl, M5.out⟩
  have HS := Lib.hid (show stepL L x = L ∧ stepL M x = M by unfold stepL; rw [if_neg e0, if_neg e1, if_neg e0, if_neg e1]; exact ⟨rfl, rfl⟩)
  have e0' : (x.do_ == 0) = false := by simp [e0]
  have e1' : (x.do_ == 1) = false := by simp [e1]
  clear e0 e1
  by_cases e2 : x.do_ = 2
  · have e2' : (x.do_ == 2) = true := by simp [e2]
    clear e2
    go_enter Try.func27, Try.ntmps27
    go_wp2_with fail
    generalize w.alloc (.cells x.cells 61) = w1 at M1 hb1 hc0 hc1 hc2 hc3 ⊢
    obtain ⟨F1, hF1, hm1⟩ := M1.out.p1
    have hlog := HL.out.len
    refine (store_crash w1 gs F1 (chestD L) hF1 (by show (logBytes L).length ≤ 10000; omega)).mono ?_
    rintro e w2 ⟨rfl, hq2⟩
    rw [show recAll (chestD L).log = L from log_all HL.out] at hq2
    have M2 := Lib.hid (hm1 _ _ (Moved.chest hq2 rfl)).left
    clear hF1 hm1 hq2
    go_wp2
    go_ret
    unfold StepPost2
    rw [HS.out.1, HS.out.2]
    exact ⟨_, rfl, M2.out⟩
  · have e2' : (x.do_ == 2) = false := by simp [e2]
    clear e2
    go_enter Try.func27, Try.ntmps27
    go_wp2
    go_ret
    unfold StepPost2
    rw [HS.out.1, HS.out.2]
    exact ⟨_, rfl, M1.out.left⟩

/-- what may come between -/
def letBy (x y : StoreStep) : Prop := y.client ≠ x.client ∨ ¬ (1 ≤ y.call.kind ∧ y.call.kind ≤ 4) ∨ y.do_ = 2
instance (x y : StoreStep) : Decidable (letBy x y) := by unfold letBy; infer_instance
def onceL (x : StoreStep) (L : List Record) (y : StoreStep) : List Record := if letBy x y then stepL L y else L
theorem onceL_ok {x : StoreStep} {L : List Record} (h : LogOk L) (y : StoreStep) : LogOk (onceL x L y) := by
  unfold onceL
  split
  · exact stepL_ok h y
  · exact h
theorem chestTear_other {L : List Record} {client no other : Int} {c : Call} {keep : Int} (h : other ≠ client ∨ ¬ (1 ≤ c.kind ∧ c.kind ≤ 4)) : lastOf (chestTear L other no c keep).2 client = lastOf L client := by
  unfold chestTear
  by_cases hc : (chestCall L other no c).1.2.2 = 0 ∧ 0 < (chestCall L other no c).1.2.1 ∧ keep < (chestCall L other no c).1.2.1
  · rw [if_pos hc]
  · rw [if_neg hc]
    exact chest_other h
theorem onceL_last {x : StoreStep} {L : List Record} (y : StoreStep) : lastOf (onceL x L y) x.client = lastOf L x.client := by
  unfold onceL
  split
  · rename_i h
    unfold stepL
    by_cases h0 : y.do_ = 0
    · rw [if_pos h0]
      refine chest_other ?_
      rcases h with h | h | h
      · exact .inl h
      · exact .inr h
      · omega
    · rw [if_neg h0]
      by_cases h1 : y.do_ = 1
      · rw [if_pos h1]
        refine chestTear_other ?_
        rcases h with h | h | h
        · exact .inl h
        · exact .inr h
        · omega
      · rw [if_neg h1]
  · rfl
def onceLs (x : StoreStep) (L : List Record) (l : List StoreStep) : List Record := l.foldl (onceL x) L
theorem onceLs_take {x : StoreStep} {L : List Record} {l : List StoreStep} {k : Nat} {y : StoreStep} (h : l[k]? = some y) : onceLs x L (l.take (k + 1)) = onceL x (onceLs x L (l.take k)) y := by
  unfold onceLs
  rw [take_next h]
  simp
theorem onceLs_ok {x : StoreStep} {L : List Record} (h : LogOk L) (l : List StoreStep) : LogOk (onceLs x L l) := by
  unfold onceLs
  induction l generalizing L with
  | nil => exact h
  | cons y l ih => exact ih (onceL_ok h y)
theorem onceLs_last {x : StoreStep} {L : List Record} (l : List StoreStep) : lastOf (onceLs x L l) x.client = lastOf L x.client := by
  unfold onceLs
  induction l generalizing L with
  | nil => rfl
  | cons y l ih => rw [List.foldl_cons, ih, onceL_last]
end Go.Proofs.Ytalfbhhldfffkab

namespace Go.Proofs.Ytalfbhhldfffkab
open Go.RowKit

abbrev OneB (b gs gr : Nat) : Rep ((Unit × Array Value) × (List Record × List Record)) := (SS b).and (Both gs gr)
def OneRel (W : World) (b gs gr : Nat) (cc : Array Value) (l : List StoreStep) (i : Value) (wr : World) : Prop :=
  ∃ k : Nat, i = .int .i64 k ∧ k ≤ l.length ∧ Has (OneB b gs gr) W wr (((), cc), (stepsL [] (l.take k), stepsL [] (l.take k)))
def OnceRel (W : World) (b gs gr ba : Nat) (x : StoreStep) (L : List Record) (ca : Array Value) (l : List StoreStep) (i : Value) (wr : World) : Prop :=
  ∃ (k : Nat) (M : List Record), i = .int .i64 k ∧ k ≤ l.length ∧ LogOk M ∧ Has ((OneB b gs gr).and (repBlock ba 28)) W wr ((((), x.cells), (onceLs x L (l.take k), M)), ca)
set_option maxHeartbeats 4000000 in
set_option maxRecDepth 100000 in
theorem storeOnce (W : World) (A : Option Addr) (c : Nat) (l : List StoreStep) (x : StoreStep) (A2 : Option Addr) (c2 : Nat) (l2 : List StoreStep) (hr : Reads W W.heap.size A l) (hr2 : Reads W W.heap.size A2 l2) (hs : ∀ x ∈ l, StrStep x) (hl : l.length ≤ 140737488351232)
    (hs2 : ∀ x ∈ l2, StrStep x) (hl2 : l2.length ≤ 140737488351232) (hx : StrStep x) :
    Calls Try.prog 6 #[.slice A l.length c, .agg x.cells, .slice A2 l2.length c2] W fun e w' => e = .returned (.bool true) ∧ Ext W w' := by
  have HR := Lib.hid hr
  have HR2 := Lib.hid hr2
  have HS := Lib.hid hs
  have HS2 := Lib.hid hs2
  have HX := Lib.hid hx
  have H0 := Lib.hid ((Has.none W).box x.cells 61)
  clear hr hr2 hs hs2 hx
  go_enter Try.func6, Try.ntmps6
  go_wp2_with fail
  refine (store_begun _).mono ?_
  rintro e w1 ⟨rfl, hx1⟩
  have H1 := Lib.hid (H0.out.step hx1)
  clear hx1
  go_wp2_with fail
  refine (law_greatStore w1 w1.heap.size A c l (HR.out.ext H1.out.ext) (Nat.le_refl _) HS.out hl).mono ?_
  rintro e w2 ⟨b2, rfl, hx2⟩
  have H2 := Lib.hid (H1.out.step hx2)
  clear hx2 H0 H1
  cases b2 with
  | true =>
    go_wp2
    go_ret
    exact ⟨rfl, H2.out.ext⟩
  | false =>
    go_wp2_with fail
    refine (law_greatStore w2 w2.heap.size A2 c2 l2 (HR2.out.ext H2.out.ext) (Nat.le_refl _) HS2.out hl2).mono ?_
    rintro e w2a ⟨b2, rfl, hx2⟩
    have H2a := Lib.hid (H2.out.step hx2)
    have hbb2 := H2a.out.blk
    have hck2 := cell_of hbb2 4
    obtain ⟨hlb2, ho2⟩ := Array.getElem?_eq_some_iff.1 hbb2
    clear hx2 H2
    cases b2 with
    | true =>
      go_wp2
      go_ret
      exact ⟨rfl, H2a.out.ext⟩
    | false =>
      cases hg : greatB x.call with
      | true =>
        have HG := Lib.hid hg
        clear hg
        go_wp2_with (go_at_call 31; refine (law_greatCall' _ x.call true HG.out HX.out.call).mono ?_; rintro e w3 ⟨rfl, rfl⟩)
        go_ret
        exact ⟨rfl, H2a.out.ext.alloc _⟩
      | false =>
        have HG := Lib.hid hg
        clear hg
        by_cases hch : 1 ≤ x.call.kind ∧ x.call.kind ≤ 4
        · have HCH := Lib.hid hch
          clear hch
          go_wp2_with fail
          refine (law_greatCall' _ x.call false HG.out HX.out.call).mono ?_
          rintro e w3 ⟨rfl, rfl⟩
          have H3 := Lib.hid (H2a.out.step ((Touch.refl _ w2a).alloc (.cells x.call.cells 31)))
          have hbb3 := H3.out.blk
          have hck3 := cell_of hbb3 4
          generalize w2a.alloc (.cells x.call.cells 31) = w3 at H3 hbb3 hck3 ⊢
          generalize W.heap.size = bx at H3 hbb3 hck3 ⊢
          clear hbb2 hlb2 ho2 H2a hck2
          go_wp2_with (first
            | (go_at_call 32; refine (ref_ischange' _ x.call.kind true (by have := HCH.out; simp; omega)).mono ?_; rintro e w4 ⟨rfl, rfl⟩)
            | fail)
          clear hbb3 hck3
          refine (store_new w3).mono ?_
          rintro e w4 ⟨rfl, hn4, -⟩
          have H6 := Lib.hid (H3.out.both (both_start hn4))
          clear hn4 H3
          generalize w3.heap.size + 1 = gs at H6 ⊢
          go_wp2_with fail
          generalize w4.alloc (.cells #[.slice none 0 0] 58) = w5 at H6 ⊢
          generalize w4.heap.size = gr at H6 ⊢
          go_loopw [9] (fun i wr => OneRel W bx gs gr x.cells l i wr) (fun i _ => l.length - (intOf i).toNat)
          case atStart => exact ⟨0, rfl, Nat.zero_le _, H6.out⟩
          case round =>
            clear H6
            obtain ⟨k, rfl, hk, hz⟩ := hrel
            have HZ := Lib.hid hz
            clear hz
            by_cases hlt : k < l.length
            · obtain ⟨s, hsx⟩ : ∃ s, l[k]? = some s := ⟨l[k], by simp [hlt]⟩
              obtain ⟨ad, rfl, hadb, hat⟩ := HR.out _ s hsx
              have hLV : LV Try.prog 61 (ad.add (k * 8)) wr = .ok (.agg s.cells) wr := LV_StoreStep ((hat.of_same (w' := wr) (by rw [show (ad.add (k * Lies.size StoreStep)).block = ad.block by unfold Addr.add; split <;> rfl]; exact HZ.out.ext.block _ hadb id)))
              have HSX := Lib.hid hsx
              have HOK := Lib.hid (stepsL_ok LogOk.nil (l.take k))
              have HST := Lib.hid (HS.out s (List.mem_of_getElem? hsx))
              clear hsx hat
              go_wp2_with fail
              obtain ⟨F1, hF1, hm1⟩ := HZ.out.snd
              refine (law_storeStep wr gs gr F1 _ s hF1 HOK.out HST.out).mono ?_
              rintro e w8 ⟨rfl, hq8⟩
              have h8 := hm1 _ _ hq8
              rw [← stepsL_take HSX.out] at h8
              have H8 := Lib.hid h8
              clear hF1 hm1 hq8 h8
              go_wp2
              go_roundw
              case rel => exact ⟨k + 1, by go_num, by omega, H8.out⟩
              case measure => simp [intOf]; omega
            · obtain rfl : k = l.length := by omega
              have HOK := Lib.hid (stepsL_ok LogOk.nil (l.take l.length))
              generalize stepsL [] (l.take l.length) = L at HZ HOK
              have hbx := HZ.out.left.blk
              have hc1 := cell_of hbx 1
              have hc2 := cell_of hbx 2
              go_wp2_with fail
              obtain ⟨F2, hF2, hm2⟩ := HZ.out.b2
              refine (store_calls wr gs F2 L x.client x.no x.call hF2 HOK.out HX.out.call).mono ?_
              rintro e w7 ⟨rfl, hq7⟩
              have H7 := Lib.hid ((hm2 _ _ hq7).box (chestCall L x.client x.no x.call).1.1.cells 28)
              clear hF2 hm2 hq7 hbx hc1 hc2 HZ
              by_cases h0 : (chestCall L x.client x.no x.call).1.2.2 = 0
              · have h0' : ((chestCall L x.client x.no x.call).1.2.2 != 0) = false := by simp [h0]
                obtain ⟨hcok, r0, hla, hno, hca, han⟩ := chest_last h0 HCH.out
                have HOK1 := Lib.hid (chestCall_ok HOK.out x.client x.no x.call)
                go_wp2_with fail
                generalize w7.alloc (.cells (chestCall L x.client x.no x.call).1.1.cells 28) = w8 at H7 ⊢
                generalize w7.heap.size = ba at H7 ⊢
                try rw [h0]
                rw [← han] at H7
                try rw [← han]
                generalize (chestCall L x.client x.no x.call).2 = L1 at *
                have HLA := Lib.hid hla
                have hno1 := hcok.no.1
                have hno2 := hcok.no.2
                have HCOK := Lib.hid hcok
                have HNO := Lib.hid hno
                have HCA := Lib.hid hca
                clear hla hno hca hcok h0 h0' han
                have HOKL := Lib.hid HOK.out
                go_loopw [12] (fun i wr => OnceRel W bx gs gr ba x L1 r0.answer.cells l2 i wr) (fun i _ => l2.length - (intOf i).toNat)
                case atStart => exact ⟨0, L, rfl, Nat.zero_le _, HOKL.out, H7.out⟩
                case round =>
                  clear H7
                  obtain ⟨k, M, rfl, hk, hM, hz⟩ := hrel
                  have HZ := Lib.hid hz
                  have HM := Lib.hid hM
                  clear hz hM
                  by_cases hlt : k < l2.length
                  · obtain ⟨y, hyx⟩ : ∃ y, l2[k]? = some y := ⟨l2[k], by simp [hlt]⟩
                    obtain ⟨ad, rfl, hadb, hat⟩ := HR2.out _ y hyx
                    have hadk : (ad.add (k * 8)).block = ad.block := by unfold Addr.add; split <;> rfl
                    replace hat : At W (ad.add (k * 8)) y := hat
                    have hAt : ∀ w', Ext W w' → At w' (ad.add (k * 8)) y := fun w' hw' => hat.of_same (hw'.block _ (by rw [hadk]; exact hadb) id)
                    have HAT := Lib.hid hAt
                    have h1 := hAt wr HZ.out.ext
                    have k0 : wr.cell? (ad.add (k * 8)) = some (.int .i64 y.do_) := h1 0 _ rfl
                    have k1 : wr.cell? ⟨(ad.add (k * 8)).block, (ad.add (k * 8)).off + 1, none⟩ = some (.int .i64 y.client) := h1 1 _ rfl
                    have k4 : wr.cell? ⟨(ad.add (k * 8)).block, (ad.add (k * 8)).off + 4, none⟩ = some (.int .i64 y.call.kind) := h1 4 _ rfl
                    have kb : wr.cell? ⟨bx, 1, none⟩ = some (.int .i64 x.client) := cell_of HZ.out.left.left.blk 1
                    have HYX := Lib.hid hyx
                    have HST := Lib.hid (HS2.out y (List.mem_of_getElem? hyx))
                    have HOKK := Lib.hid (onceLs_ok (x := x) HOK1.out (l2.take k))
                    clear hyx hat hAt h1 hadk
                    by_cases e1 : y.client = x.client
                    · have e1' : (y.client != x.client) = false := by simp [e1]
                      by_cases e2 : 1 ≤ y.call.kind ∧ y.call.kind ≤ 4
                      · have E2 := Lib.hid e2
                        by_cases e3 : y.do_ = 2
                        · have e3' : (y.do_ == 2) = true := by simp [e3]
                          have HLB := Lib.hid (show letBy x y from .inr (.inr e3))
                          clear e1 e2 e3
                          go_wp2_with fail
                          go_region_held3 (fun w' => w'.cell? (ad.add (k * 8)) = some (.int .i64 y.do_) ∧ w'.cell? ⟨(ad.add (k * 8)).block, (ad.add (k * 8)).off + 1, none⟩ = some (.int .i64 y.client) ∧ w'.cell? ⟨(ad.add (k * 8)).block, (ad.add (k * 8)).off + 4, none⟩ = some (.int .i64 y.call.kind) ∧ w'.cell? ⟨bx, 1, none⟩ = some (.int .i64 x.client))
                            (exact ⟨k0, k1, k4, kb⟩)
                            (first
                              | (go_at_call 32; refine (ref_ischange' _ y.call.kind true (by have := E2.out; simp; omega)).mono ?_; rintro e w8 ⟨rfl, rfl⟩))
                          have hlv : LV Try.prog 61 (ad.add (k * 8)) wr.drew = .ok (.agg y.cells) wr.drew := LV_StoreStep (HAT.out _ (HZ.out.ext.trans (Touch.drew (Touch.refl _ wr))))
                          go_wp2_with fail
                          obtain ⟨F3, hF3, hm3⟩ := (HZ.out.step (Touch.drew (Touch.refl _ wr))).fs
                          refine (law_storeStep2 _ gs gr F3 _ M y hF3 HOKK.out HM.out HST.out).mono ?_
                          rintro e w9 ⟨b9, rfl, hq9⟩
                          have h9 := hm3 _ _ hq9
                          rw [show stepL (onceLs x L1 (l2.take k)) y = onceLs x L1 (l2.take (k + 1)) by rw [onceLs_take HYX.out]; unfold onceL; rw [if_pos HLB.out]] at h9
                          have H9 := Lib.hid h9
                          have HM9 := Lib.hid (stepL_ok HM.out y)
                          clear hF3 hm3 hq9 h9
                          go_wp2
                          go_roundw
                          case rel => exact ⟨k + 1, _, by go_num, by omega, HM9.out, H9.out⟩
                          case measure => simp [intOf]; omega
                        · have e3' : (y.do_ == 2) = false := by simp [e3]
                          have HLB := Lib.hid (show ¬ letBy x y by unfold letBy; omega)
                          clear e1 e2 e3
                          go_wp2_with fail
                          go_region_held3 (fun w' => w'.cell? (ad.add (k * 8)) = some (.int .i64 y.do_) ∧ w'.cell? ⟨(ad.add (k * 8)).block, (ad.add (k * 8)).off + 1, none⟩ = some (.int .i64 y.client) ∧ w'.cell? ⟨(ad.add (k * 8)).block, (ad.add (k * 8)).off + 4, none⟩ = some (.int .i64 y.call.kind) ∧ w'.cell? ⟨bx, 1, none⟩ = some (.int .i64 x.client))
                            (exact ⟨k0, k1, k4, kb⟩)
                            (first
                              | (go_at_call 32; refine (ref_ischange' _ y.call.kind true (by have := E2.out; simp; omega)).mono ?_; rintro e w8 ⟨rfl, rfl⟩))
                          go_wp2
                          go_roundw
                          case rel => exact ⟨k + 1, M, by go_num, by omega, HM.out, by rw [onceLs_take HYX.out]; unfold onceL; rw [if_neg HLB.out]; exact HZ.out.step (Touch.drew (Touch.refl _ wr))⟩
                          case measure => simp [intOf]; omega
                      · have E2 := Lib.hid e2
                        have HLB := Lib.hid (show letBy x y from .inr (.inl e2))
                        clear e1 e2
                        go_wp2_with fail
                        refine wp_region_held_drew (S := fun w' => w'.cell? (ad.add (k * 8)) = some (.int .i64 y.do_) ∧ w'.cell? ⟨(ad.add (k * 8)).block, (ad.add (k * 8)).off + 1, none⟩ = some (.int .i64 y.client) ∧ w'.cell? ⟨(ad.add (k * 8)).block, (ad.add (k * 8)).off + 4, none⟩ = some (.int .i64 y.call.kind) ∧ w'.cell? ⟨bx, 1, none⟩ = some (.int .i64 x.client)) (by kernel_rfl) ⟨k0, k1, k4, kb⟩ (fun hHeld => ?_)
                        refine wpAnyH_take (i := 0) (v := ?_) (List.getElem?_toArray.trans rfl) (by kernel_rfl) (by kernel_rfl) (by kernel_rfl) (fun _ _ _ h => h) (Or.inl ⟨by rfl, ?_⟩) (by assumption) ?_
                        rotate_left
                        · intro w' hw'
                          try dsimp only at hw'
                          skip
                          go_simp
                          try with_reducible rfl
                        try simp only [Act.put, List.setIfInBounds_toArray, List.set_cons_zero, List.set_cons_succ]
                        refine wpAnyH_take (i := 1) (v := ?_) (List.getElem?_toArray.trans rfl) (by kernel_rfl) (by kernel_rfl) (by kernel_rfl) (fun _ _ _ h => h) (Or.inl ⟨by rfl, ?_⟩) (by assumption) ?_
                        rotate_left
                        · intro w' hw'
                          try dsimp only at hw'
                          skip
                          go_simp
                          try with_reducible rfl
                        try simp only [Act.put, List.setIfInBounds_toArray, List.set_cons_zero, List.set_cons_succ]
                        refine wpAnyH_take (i := 2) (v := ?_) (List.getElem?_toArray.trans rfl) (by kernel_rfl) (by kernel_rfl) (by kernel_rfl) (fun _ _ _ h => h) (Or.inl ⟨by rfl, ?_⟩) (by assumption) ?_
                        rotate_left
                        · intro w' hw'
                          try dsimp only at hw'
                          skip
                          go_simp
                          try with_reducible rfl
                        try simp only [Act.put, List.setIfInBounds_toArray, List.set_cons_zero, List.set_cons_succ]
                        refine wpAnyH_take (i := 3) (v := ?_) (List.getElem?_toArray.trans rfl) (by kernel_rfl) (by kernel_rfl) (by kernel_rfl) (fun _ _ _ h => h) (Or.inl ⟨by rfl, ?_⟩) (by assumption) ?_
                        rotate_left
                        · intro w' hw'
                          try dsimp only at hw'
                          skip
                          go_simp
                          try with_reducible rfl
                        try simp only [Act.put, List.setIfInBounds_toArray, List.set_cons_zero, List.set_cons_succ]
                        refine wpAnyH_take (i := 4) (v := ?_) (List.getElem?_toArray.trans rfl) (by kernel_rfl) (by kernel_rfl) (by kernel_rfl) (fun _ _ _ h => h) (Or.inl ⟨by rfl, ?_⟩) (by assumption) ?_
                        rotate_left
                        · intro w' hw'
                          try dsimp only at hw'
                          obtain ⟨s0, s1, s4, sb⟩ := hw'
                          go_simp
                          try with_reducible rfl
                        try simp only [Act.put, List.setIfInBounds_toArray, List.set_cons_zero, List.set_cons_succ]
                        refine wpAnyH_take (i := 5) (v := ?_) (List.getElem?_toArray.trans rfl) (by kernel_rfl) (by kernel_rfl) (by kernel_rfl) (fun _ _ _ h => h) (Or.inl ⟨by rfl, ?_⟩) (by assumption) ?_
                        rotate_left
                        · intro w' hw'
                          try dsimp only at hw'
                          skip
                          go_simp
                          try with_reducible rfl
                        try simp only [Act.put, List.setIfInBounds_toArray, List.set_cons_zero, List.set_cons_succ]
                        refine wpAnyH_take (i := 6) (v := ?_) (List.getElem?_toArray.trans rfl) (by kernel_rfl) (by kernel_rfl) (by kernel_rfl) (fun _ _ _ h => h) (Or.inl ⟨by rfl, ?_⟩) (by assumption) ?_
                        rotate_left
                        · intro w' hw'
                          try dsimp only at hw'
                          obtain ⟨s0, s1, s4, sb⟩ := hw'
                          go_simp
                          try with_reducible rfl
                        try simp only [Act.put, List.setIfInBounds_toArray, List.set_cons_zero, List.set_cons_succ]
                        refine wpAnyH_take (i := 7) (v := ?_) (List.getElem?_toArray.trans rfl) (by kernel_rfl) (by kernel_rfl) (by kernel_rfl) (fun _ _ _ h => h) (Or.inl ⟨by rfl, ?_⟩) (by assumption) ?_
                        rotate_left
                        · intro w' hw'
                          try dsimp only at hw'
                          skip
                          go_simp
                          try with_reducible rfl
                        try simp only [Act.put, List.setIfInBounds_toArray, List.set_cons_zero, List.set_cons_succ]
                        refine wpAnyH_take (i := 8) (v := ?_) (List.getElem?_toArray.trans rfl) (by kernel_rfl) (by kernel_rfl) (by kernel_rfl) (fun _ _ _ h => h) (Or.inl ⟨by rfl, ?_⟩) (by assumption) ?_
                        rotate_left
                        · intro w' hw'
                          try dsimp only at hw'
                          skip
                          go_simp
                          try with_reducible rfl
                        try simp only [Act.put, List.setIfInBounds_toArray, List.set_cons_zero, List.set_cons_succ]
                        refine wpAnyH_take (i := 9) (v := ?_) (List.getElem?_toArray.trans rfl) (by kernel_rfl) (by kernel_rfl) (by kernel_rfl) (fun _ _ _ h => h) (Or.inl ⟨by rfl, ?_⟩) (by assumption) ?_
                        rotate_left
                        · intro w' hw'
                          try dsimp only at hw'
                          skip
                          go_simp
                          try with_reducible rfl
                        try simp only [Act.put, List.setIfInBounds_toArray, List.set_cons_zero, List.set_cons_succ]
                        refine wpAnyH_take (i := 10) (v := ?_) (List.getElem?_toArray.trans rfl) (by kernel_rfl) (by kernel_rfl) (by kernel_rfl) (fun _ _ _ h => h) (Or.inl ⟨by rfl, ?_⟩) (by assumption) ?_
                        rotate_left
                        · intro w' hw'
                          try dsimp only at hw'
                          skip
                          go_simp
                          try with_reducible rfl
                        try simp only [Act.put, List.setIfInBounds_toArray, List.set_cons_zero, List.set_cons_succ]
                        refine wpAnyH_take (i := 11) (v := ?_) (List.getElem?_toArray.trans rfl) (by kernel_rfl) (by kernel_rfl) (by kernel_rfl) (fun _ _ _ h => h) (Or.inl ⟨by rfl, ?_⟩) (by assumption) ?_
                        rotate_left
                        · intro w' hw'
                          try dsimp only at hw'
                          skip
                          go_simp
                          try with_reducible rfl
                        try simp only [Act.put, List.setIfInBounds_toArray, List.set_cons_zero, List.set_cons_succ]
                        refine wpAnyH_take (i := 12) (v := ?_) (List.getElem?_toArray.trans rfl) (by kernel_rfl) (by kernel_rfl) (by kernel_rfl) (fun _ _ _ h => h) (Or.inl ⟨by rfl, ?_⟩) (by assumption) ?_
                        rotate_left
                        · intro w' hw'
                          try dsimp only at hw'
                          skip
                          go_simp
                          try with_reducible rfl
                        try simp only [Act.put, List.setIfInBounds_toArray, List.set_cons_zero, List.set_cons_succ]
                        refine wpAnyH_take (i := 13) (v := ?_) (List.getElem?_toArray.trans rfl) (by kernel_rfl) (by kernel_rfl) (by kernel_rfl) (fun _ _ _ h => h) (Or.inl ⟨by rfl, ?_⟩) (by assumption) ?_
                        rotate_left
                        · intro w' hw'
                          try dsimp only at hw'
                          skip
                          go_simp
                          try with_reducible rfl
                        try simp only [Act.put, List.setIfInBounds_toArray, List.set_cons_zero, List.set_cons_succ]
                        refine wpAnyH_take (i := 14) (v := ?_) (List.getElem?_toArray.trans rfl) (by kernel_rfl) (by kernel_rfl) (by kernel_rfl) (fun _ _ _ h => h) (Or.inl ⟨by rfl, ?_⟩) (by assumption) ?_
                        rotate_left
                        · intro w' hw'
                          try dsimp only at hw'
                          obtain ⟨s0, s1, s4, sb⟩ := hw'
                          go_simp
                          try with_reducible rfl
                        try simp only [Act.put, List.setIfInBounds_toArray, List.set_cons_zero, List.set_cons_succ]
                        refine wpAnyH_ready (rs := [15]) (by kernel_rfl) (by simp) ?_
                        refine AllReadyH.cons (List.getElem?_toArray.trans rfl) (fun K hK => ?_) AllReadyH.nil
                        go_simp
                        go_at_call 32
                        refine (ref_ischange' _ y.call.kind false (by have := E2.out; simp; omega)).mono ?_
                        rintro e w8 ⟨rfl, rfl⟩
                        refine hK.out _ _ hHeld (fun _ => ?_)
                        clear hK K
                        try simp only [Act.put, List.setIfInBounds_toArray, List.set_cons_zero, List.set_cons_succ]
                        refine wpAnyH_take (i := 16) (v := ?_) (List.getElem?_toArray.trans rfl) (by kernel_rfl) (by kernel_rfl) (by kernel_rfl) (fun _ _ _ h => h) (Or.inl ⟨by rfl, ?_⟩) (by assumption) ?_
                        rotate_left
                        · intro w' hw'
                          try dsimp only at hw'
                          skip
                          go_simp
                          try with_reducible rfl
                        try simp only [Act.put, List.setIfInBounds_toArray, List.set_cons_zero, List.set_cons_succ]
                        refine wpAnyH_take (i := 17) (v := ?_) (List.getElem?_toArray.trans rfl) (by kernel_rfl) (by kernel_rfl) (by kernel_rfl) (fun _ _ _ h => h) (Or.inl ⟨by rfl, ?_⟩) (by assumption) ?_
                        rotate_left
                        · intro w' hw'
                          try dsimp only at hw'
                          skip
                          go_simp
                          try with_reducible rfl
                        try simp only [Act.put, List.setIfInBounds_toArray, List.set_cons_zero, List.set_cons_succ]
                        refine wpAnyH_take (i := 18) (v := ?_) (List.getElem?_toArray.trans rfl) (by kernel_rfl) (by kernel_rfl) (by kernel_rfl) (fun _ _ _ h => h) (Or.inl ⟨by rfl, ?_⟩) (by assumption) ?_
                        rotate_left
                        · intro w' hw'
                          try dsimp only at hw'
                          skip
                          go_simp
                          try with_reducible rfl
                        try simp only [Act.put, List.setIfInBounds_toArray, List.set_cons_zero, List.set_cons_succ]
                        refine wpAnyH_take (i := 19) (v := undef) (List.getElem?_toArray.trans rfl) (by kernel_rfl) (by kernel_rfl) (by kernel_rfl) (fun _ _ _ h => h) (Or.inr ⟨by rfl, rfl⟩) (by assumption) ?_
                        try simp only [Act.put, List.setIfInBounds_toArray, List.set_cons_zero, List.set_cons_succ]
                        refine wpAnyH_take (i := 20) (v := undef) (List.getElem?_toArray.trans rfl) (by kernel_rfl) (by kernel_rfl) (by kernel_rfl) (fun _ _ _ h => h) (Or.inr ⟨by rfl, rfl⟩) (by assumption) ?_
                        try simp only [Act.put, List.setIfInBounds_toArray, List.set_cons_zero, List.set_cons_succ]
                        refine wpAnyH_take (i := 21) (v := undef) (List.getElem?_toArray.trans rfl) (by kernel_rfl) (by kernel_rfl) (by kernel_rfl) (fun _ _ _ h => h) (Or.inr ⟨by rfl, rfl⟩) (by assumption) ?_
                        try simp only [Act.put, List.setIfInBounds_toArray, List.set_cons_zero, List.set_cons_succ]
                        refine wpAnyH_take (i := 22) (v := undef) (List.getElem?_toArray.trans rfl) (by kernel_rfl) (by kernel_rfl) (by kernel_rfl) (fun _ _ _ h => h) (Or.inr ⟨by rfl, rfl⟩) (by assumption) ?_
                        try simp only [Act.put, List.setIfInBounds_toArray, List.set_cons_zero, List.set_cons_succ]
                        refine wpAnyH_take (i := 23) (v := undef) (List.getElem?_toArray.trans rfl) (by kernel_rfl) (by kernel_rfl) (by kernel_rfl) (fun _ _ _ h => h) (Or.inr ⟨by rfl, rfl⟩) (by assumption) ?_
                        try simp only [Act.put, List.setIfInBounds_toArray, List.set_cons_zero, List.set_cons_succ]
                        refine wpAnyH_take (i := 24) (v := undef) (List.getElem?_toArray.trans rfl) (by kernel_rfl) (by kernel_rfl) (by kernel_rfl) (fun _ _ _ h => h) (Or.inr ⟨by rfl, rfl⟩) (by assumption) ?_
                        try simp only [Act.put, List.setIfInBounds_toArray, List.set_cons_zero, List.set_cons_succ]
                        refine wpAnyH_take (i := 25) (v := ?_) (List.getElem?_toArray.trans rfl) (by kernel_rfl) (by kernel_rfl) (by kernel_rfl) (fun _ _ _ h => h) (Or.inl ⟨by rfl, ?_⟩) (by assumption) ?_
                        rotate_left
                        · intro w' hw'
                          try dsimp only at hw'
                          skip
                          go_simp
                          try with_reducible rfl
                        try simp only [Act.put, List.setIfInBounds_toArray, List.set_cons_zero, List.set_cons_succ]
                        refine wpAnyH_done (by kernel_rfl) ?_ _
                        have hlv : LV Try.prog 61 (ad.add (k * 8)) wr.drew = .ok (.agg y.cells) wr.drew := LV_StoreStep (HAT.out _ (HZ.out.ext.trans (Touch.drew (Touch.refl _ wr))))
                        go_wp2_with fail
                        obtain ⟨F3, hF3, hm3⟩ := (HZ.out.step (Touch.drew (Touch.refl _ wr))).fs
                        refine (law_storeStep2 _ gs gr F3 _ M y hF3 HOKK.out HM.out HST.out).mono ?_
                        rintro e w9 ⟨b9, rfl, hq9⟩
                        have h9 := hm3 _ _ hq9
                        rw [show stepL (onceLs x L1 (l2.take k)) y = onceLs x L1 (l2.take (k + 1)) by rw [onceLs_take HYX.out]; unfold onceL; rw [if_pos HLB.out]] at h9
                        have H9 := Lib.hid h9
                        have HM9 := Lib.hid (stepL_ok HM.out y)
                        clear hF3 hm3 hq9 h9
                        go_wp2
                        go_roundw
                        case rel => exact ⟨k + 1, _, by go_num, by omega, HM9.out, H9.out⟩
                        case measure => simp [intOf]; omega
                    · have e1' : (y.client != x.client) = true := by simp [e1]
                      have E2 := Lib.hid True.intro
                      have HLB := Lib.hid (show letBy x y from .inl e1)
                      clear e1
                      go_wp2_with fail
                      refine wp_region_held_drew (S := fun w' => w'.cell? (ad.add (k * 8)) = some (.int .i64 y.do_) ∧ w'.cell? ⟨(ad.add (k * 8)).block, (ad.add (k * 8)).off + 1, none⟩ = some (.int .i64 y.client) ∧ w'.cell? ⟨(ad.add (k * 8)).block, (ad.add (k * 8)).off + 4, none⟩ = some (.int .i64 y.call.kind) ∧ w'.cell? ⟨bx, 1, none⟩ = some (.int .i64 x.client)) (by kernel_rfl) ⟨k0, k1, k4, kb⟩ (fun hHeld => ?_)
                      refine wpAnyH_take (i := 0) (v := ?_) (List.getElem?_toArray.trans rfl) (by kernel_rfl) (by kernel_rfl) (by kernel_rfl) (fun _ _ _ h => h) (Or.inl ⟨by rfl, ?_⟩) (by assumption) ?_
                      rotate_left
                      · intro w' hw'
                        try dsimp only at hw'
                        skip
                        go_simp
                        try with_reducible rfl
                      try simp only [Act.put, List.setIfInBounds_toArray, List.set_cons_zero, List.set_cons_succ]
                      refine wpAnyH_take (i := 1) (v := ?_) (List.getElem?_toArray.trans rfl) (by kernel_rfl) (by kernel_rfl) (by kernel_rfl) (fun _ _ _ h => h) (Or.inl ⟨by rfl, ?_⟩) (by assumption) ?_
                      rotate_left
                      · intro w' hw'
                        try dsimp only at hw'
                        skip
                        go_simp
                        try with_reducible rfl
                      try simp only [Act.put, List.setIfInBounds_toArray, List.set_cons_zero, List.set_cons_succ]
                      refine wpAnyH_take (i := 2) (v := ?_) (List.getElem?_toArray.trans rfl) (by kernel_rfl) (by kernel_rfl) (by kernel_rfl) (fun _ _ _ h => h) (Or.inl ⟨by rfl, ?_⟩) (by assumption) ?_
                      rotate_left
                      · intro w' hw'
                        try dsimp only at hw'
                        skip
                        go_simp
                        try with_reducible rfl
                      try simp only [Act.put, List.setIfInBounds_toArray, List.set_cons_zero, List.set_cons_succ]
                      refine wpAnyH_take (i := 3) (v := ?_) (List.getElem?_toArray.trans rfl) (by kernel_rfl) (by kernel_rfl) (by kernel_rfl) (fun _ _ _ h => h) (Or.inl ⟨by rfl, ?_⟩) (by assumption) ?_
                      rotate_left
                      · intro w' hw'
                        try dsimp only at hw'
                        skip
                        go_simp
                        try with_reducible rfl
                      try simp only [Act.put, List.setIfInBounds_toArray, List.set_cons_zero, List.set_cons_succ]
                      refine wpAnyH_take (i := 4) (v := ?_) (List.getElem?_toArray.trans rfl) (by kernel_rfl) (by kernel_rfl) (by kernel_rfl) (fun _ _ _ h => h) (Or.inl ⟨by rfl, ?_⟩) (by assumption) ?_
                      rotate_left
                      · intro w' hw'
                        try dsimp only at hw'
                        obtain ⟨s0, s1, s4, sb⟩ := hw'
                        go_simp
                        try with_reducible rfl
                      try simp only [Act.put, List.setIfInBounds_toArray, List.set_cons_zero, List.set_cons_succ]
                      refine wpAnyH_take (i := 5) (v := ?_) (List.getElem?_toArray.trans rfl) (by kernel_rfl) (by kernel_rfl) (by kernel_rfl) (fun _ _ _ h => h) (Or.inl ⟨by rfl, ?_⟩) (by assumption) ?_
                      rotate_left
                      · intro w' hw'
                        try dsimp only at hw'
                        skip
                        go_simp
                        try with_reducible rfl
                      try simp only [Act.put, List.setIfInBounds_toArray, List.set_cons_zero, List.set_cons_succ]
                      refine wpAnyH_take (i := 6) (v := ?_) (List.getElem?_toArray.trans rfl) (by kernel_rfl) (by kernel_rfl) (by kernel_rfl) (fun _ _ _ h => h) (Or.inl ⟨by rfl, ?_⟩) (by assumption) ?_
                      rotate_left
                      · intro w' hw'
                        try dsimp only at hw'
                        obtain ⟨s0, s1, s4, sb⟩ := hw'
                        go_simp
                        try with_reducible rfl
                      try simp only [Act.put, List.setIfInBounds_toArray, List.set_cons_zero, List.set_cons_succ]
                      refine wpAnyH_take (i := 7) (v := ?_) (List.getElem?_toArray.trans rfl) (by kernel_rfl) (by kernel_rfl) (by kernel_rfl) (fun _ _ _ h => h) (Or.inl ⟨by rfl, ?_⟩) (by assumption) ?_
                      rotate_left
                      · intro w' hw'
                        try dsimp only at hw'
                        skip
                        go_simp
                        try with_reducible rfl
                      try simp only [Act.put, List.setIfInBounds_toArray, List.set_cons_zero, List.set_cons_succ]
                      refine wpAnyH_take (i := 8) (v := ?_) (List.getElem?_toArray.trans rfl) (by kernel_rfl) (by kernel_rfl) (by kernel_rfl) (fun _ _ _ h => h) (Or.inl ⟨by rfl, ?_⟩) (by assumption) ?_
                      rotate_left
                      · intro w' hw'
                        try dsimp only at hw'
                        skip
                        go_simp
                        try with_reducible rfl
                      try simp only [Act.put, List.setIfInBounds_toArray, List.set_cons_zero, List.set_cons_succ]
                      refine wpAnyH_take (i := 9) (v := undef) (List.getElem?_toArray.trans rfl) (by kernel_rfl) (by kernel_rfl) (by kernel_rfl) (fun _ _ _ h => h) (Or.inr ⟨by rfl, rfl⟩) (by assumption) ?_
                      try simp only [Act.put, List.setIfInBounds_toArray, List.set_cons_zero, List.set_cons_succ]
                      refine wpAnyH_take (i := 10) (v := undef) (List.getElem?_toArray.trans rfl) (by kernel_rfl) (by kernel_rfl) (by kernel_rfl) (fun _ _ _ h => h) (Or.inr ⟨by rfl, rfl⟩) (by assumption) ?_
                      try simp only [Act.put, List.setIfInBounds_toArray, List.set_cons_zero, List.set_cons_succ]
                      refine wpAnyH_take (i := 11) (v := undef) (List.getElem?_toArray.trans rfl) (by kernel_rfl) (by kernel_rfl) (by kernel_rfl) (fun _ _ _ h => h) (Or.inr ⟨by rfl, rfl⟩) (by assumption) ?_
                      try simp only [Act.put, List.setIfInBounds_toArray, List.set_cons_zero, List.set_cons_succ]
                      refine wpAnyH_take (i := 12) (v := undef) (List.getElem?_toArray.trans rfl) (by kernel_rfl) (by kernel_rfl) (by kernel_rfl) (fun _ _ _ h => h) (Or.inr ⟨by rfl, rfl⟩) (by assumption) ?_
                      try simp only [Act.put, List.setIfInBounds_toArray, List.set_cons_zero, List.set_cons_succ]
                      refine wpAnyH_take (i := 13) (v := undef) (List.getElem?_toArray.trans rfl) (by kernel_rfl) (by kernel_rfl) (by kernel_rfl) (fun _ _ _ h => h) (Or.inr ⟨by rfl, rfl⟩) (by assumption) ?_
                      try simp only [Act.put, List.setIfInBounds_toArray, List.set_cons_zero, List.set_cons_succ]
                      refine wpAnyH_take (i := 14) (v := undef) (List.getElem?_toArray.trans rfl) (by kernel_rfl) (by kernel_rfl) (by kernel_rfl) (fun _ _ _ h => h) (Or.inr ⟨by rfl, rfl⟩) (by assumption) ?_
                      try simp only [Act.put, List.setIfInBounds_toArray, List.set_cons_zero, List.set_cons_succ]
                      refine wpAnyH_take (i := 15) (v := undef) (List.getElem?_toArray.trans rfl) (by kernel_rfl) (by kernel_rfl) (by kernel_rfl) (fun _ _ _ h => h) (Or.inr ⟨by rfl, rfl⟩) (by assumption) ?_
                      try simp only [Act.put, List.setIfInBounds_toArray, List.set_cons_zero, List.set_cons_succ]
                      refine wpAnyH_take (i := 16) (v := undef) (List.getElem?_toArray.trans rfl) (by kernel_rfl) (by kernel_rfl) (by kernel_rfl) (fun _ _ _ h => h) (Or.inr ⟨by rfl, rfl⟩) (by assumption) ?_
                      try simp only [Act.put, List.setIfInBounds_toArray, List.set_cons_zero, List.set_cons_succ]
                      refine wpAnyH_take (i := 17) (v := ?_) (List.getElem?_toArray.trans rfl) (by kernel_rfl) (by kernel_rfl) (by kernel_rfl) (fun _ _ _ h => h) (Or.inl ⟨by rfl, ?_⟩) (by assumption) ?_
                      rotate_left
                      · intro w' hw'
                        try dsimp only at hw'
                        skip
                        go_simp
                        try with_reducible rfl
                      try simp only [Act.put, List.setIfInBounds_toArray, List.set_cons_zero, List.set_cons_succ]
                      refine wpAnyH_take (i := 18) (v := ?_) (List.getElem?_toArray.trans rfl) (by kernel_rfl) (by kernel_rfl) (by kernel_rfl) (fun _ _ _ h => h) (Or.inl ⟨by rfl, ?_⟩) (by assumption) ?_
                      rotate_left
                      · intro w' hw'
                        try dsimp only at hw'
                        skip
                        go_simp
                        try with_reducible rfl
                      try simp only [Act.put, List.setIfInBounds_toArray, List.set_cons_zero, List.set_cons_succ]
                      refine wpAnyH_take (i := 19) (v := undef) (List.getElem?_toArray.trans rfl) (by kernel_rfl) (by kernel_rfl) (by kernel_rfl) (fun _ _ _ h => h) (Or.inr ⟨by rfl, rfl⟩) (by assumption) ?_
                      try simp only [Act.put, List.setIfInBounds_toArray, List.set_cons_zero, List.set_cons_succ]
                      refine wpAnyH_take (i := 20) (v := undef) (List.getElem?_toArray.trans rfl) (by kernel_rfl) (by kernel_rfl) (by kernel_rfl) (fun _ _ _ h => h) (Or.inr ⟨by rfl, rfl⟩) (by assumption) ?_
                      try simp only [Act.put, List.setIfInBounds_toArray, List.set_cons_zero, List.set_cons_succ]
                      refine wpAnyH_take (i := 21) (v := undef) (List.getElem?_toArray.trans rfl) (by kernel_rfl) (by kernel_rfl) (by kernel_rfl) (fun _ _ _ h => h) (Or.inr ⟨by rfl, rfl⟩) (by assumption) ?_
                      try simp only [Act.put, List.setIfInBounds_toArray, List.set_cons_zero, List.set_cons_succ]
                      refine wpAnyH_take (i := 22) (v := undef) (List.getElem?_toArray.trans rfl) (by kernel_rfl) (by kernel_rfl) (by kernel_rfl) (fun _ _ _ h => h) (Or.inr ⟨by rfl, rfl⟩) (by assumption) ?_
                      try simp only [Act.put, List.setIfInBounds_toArray, List.set_cons_zero, List.set_cons_succ]
                      refine wpAnyH_take (i := 23) (v := undef) (List.getElem?_toArray.trans rfl) (by kernel_rfl) (by kernel_rfl) (by kernel_rfl) (fun _ _ _ h => h) (Or.inr ⟨by rfl, rfl⟩) (by assumption) ?_
                      try simp only [Act.put, List.setIfInBounds_toArray, List.set_cons_zero, List.set_cons_succ]
                      refine wpAnyH_take (i := 24) (v := undef) (List.getElem?_toArray.trans rfl) (by kernel_rfl) (by kernel_rfl) (by kernel_rfl) (fun _ _ _ h => h) (Or.inr ⟨by rfl, rfl⟩) (by assumption) ?_
                      try simp only [Act.put, List.setIfInBounds_toArray, List.set_cons_zero, List.set_cons_succ]
                      refine wpAnyH_take (i := 25) (v := ?_) (List.getElem?_toArray.trans rfl) (by kernel_rfl) (by kernel_rfl) (by kernel_rfl) (fun _ _ _ h => h) (Or.inl ⟨by rfl, ?_⟩) (by assumption) ?_
                      rotate_left
                      · intro w' hw'
                        try dsimp only at hw'
                        skip
                        go_simp
                        try with_reducible rfl
                      try simp only [Act.put, List.setIfInBounds_toArray, List.set_cons_zero, List.set_cons_succ]
                      refine wpAnyH_done (by kernel_rfl) ?_ _
                      have hlv : LV Try.prog 61 (ad.add (k * 8)) wr.drew = .ok (.agg y.cells) wr.drew := LV_StoreStep (HAT.out _ (HZ.out.ext.trans (Touch.drew (Touch.refl _ wr))))
                      go_wp2_with fail
                      obtain ⟨F3, hF3, hm3⟩ := (HZ.out.step (Touch.drew (Touch.refl _ wr))).fs
                      refine (law_storeStep2 _ gs gr F3 _ M y hF3 HOKK.out HM.out HST.out).mono ?_
                      rintro e w9 ⟨b9, rfl, hq9⟩
                      have h9 := hm3 _ _ hq9
                      rw [show stepL (onceLs x L1 (l2.take k)) y = onceLs x L1 (l2.take (k + 1)) by rw [onceLs_take HYX.out]; unfold onceL; rw [if_pos HLB.out]] at h9
                      have H9 := Lib.hid h9
                      have HM9 := Lib.hid (stepL_ok HM.out y)
                      clear hF3 hm3 hq9 h9
                      go_wp2
                      go_roundw
                      case rel => exact ⟨k + 1, _, by go_num, by omega, HM9.out, H9.out⟩
                      case measure => simp [intOf]; omega
                  · obtain rfl : k = l2.length := by omega
                    have h2 := HZ.out
                    rw [List.take_length] at h2
                    have HL2 := Lib.hid ((onceLs_last (x := x) l2).trans HLA.out)
                    have HOK2 := Lib.hid (onceLs_ok (x := x) HOK1.out l2)
                    generalize onceLs x L1 l2 = L2 at *
                    have H2 := Lib.hid h2
                    clear h2 HZ
                    have hx1 : x.no - 1 < r0.no := by rw [HNO.out]; omega
                    have HAG := Lib.hid (chest_again HCOK.out HCH.out HL2.out HNO.out HCA.out)
                    have HLO := Lib.hid (chest_lower HCH.out HL2.out hx1)
                    have HLN := Lib.hid (show lastNo L2 x.client = x.no by unfold lastNo; rw [HL2.out]; exact HNO.out)
                    clear hx1
                    have hwr : IntKind.i64.wrap (x.no - 1) = x.no - 1 := IntWalk.i64_in _ (by omega)
                    go_wp2_with fail
                    obtain ⟨F3, hF3, _⟩ := H2.out.b1
                    refine (store_logs wr gs F3 L2 hF3 HOK2.out).mono ?_
                    rintro e w10 ⟨A10, c10, rfl, ho10, hx10, _⟩
                    have H10 := Lib.hid (H2.out.step hx10)
                    have hcv10 := conv_log ho10
                    have hbx10 := H10.out.left.left.blk
                    have hc1 := cell_of hbx10 1
                    have hc2 := cell_of hbx10 2
                    clear hF3 ho10 hx10 H2
                    go_wp2_with fail
                    obtain ⟨F4, hF4, hm4⟩ := H10.out.b1
                    refine (store_calls' w10 gs F4 L2 x.client x.no x.call _ hF4 HOK2.out HX.out.call HAG.out).mono ?_
                    rintro e w11 ⟨rfl, hq11⟩
                    have H11 := Lib.hid ((hm4 _ _ hq11).box r0.answer.cells 28)
                    have hbx11 := H11.out.left.left.left.blk
                    have hd1 := cell_of hbx11 1
                    have hd2 := cell_of hbx11 2
                    clear hF4 hm4 hq11 hcv10 hbx10 hc1 hc2 H10
                    go_wp2_with fail
                    generalize w11.alloc (.cells r0.answer.cells 28) = w12 at H11 hbx11 hd1 hd2 ⊢
                    generalize w11.heap.size = bb at H11 ⊢
                    obtain ⟨F5, hF5, hm5⟩ := H11.out.b0
                    refine (store_calls w12 gs F5 L2 x.client (x.no - 1) x.call hF5 HOK2.out HX.out.call).mono ?_
                    rintro e w13 ⟨rfl, hq13⟩
                    obtain ⟨hlo1, hlo2⟩ := HLO.out
                    rw [hlo2] at hq13
                    have hlo1' : ((chestCall L2 x.client (x.no - 1) x.call).1.2.2 != 0) = true := by simp [hlo1]
                    have H14 := Lib.hid ((hm5 _ _ hq13).step ((Touch.refl _ w13).alloc (.cells (chestCall L2 x.client (x.no - 1) x.call).1.1.cells 28)))
                    clear hF5 hm5 hq13 hbx11 hd1 hd2 H11 HLO hlo1 hlo2
                    go_wp2_with fail
                    generalize (chestCall L2 x.client (x.no - 1) x.call).1 = R at *
                    generalize w13.alloc (.cells R.1.cells 28) = w14 at H14 ⊢
                    have hba := H14.out.left.blk
                    have hbb := H14.out.blk
                    have hbx14 := H14.out.left.left.left.blk
                    obtain ⟨F6, hF6, _⟩ := H14.out.b0
                    obtain ⟨f1, u1, v1, hA1, _⟩ := store_parts hF6
                    have HA1 := Lib.hid hA1
                    have HS4 := Lib.hid (show ∀ w', Ext w14 w' → w'.heap[ba]? = some (.cells r0.answer.cells 28 (0, 0)) ∧ w'.heap[bb]? = some (.cells r0.answer.cells 28 (0, 0)) ∧ w'.cell? ⟨bx, 1, none⟩ = some (.int .i64 x.client) ∧ w'.cell? ⟨bx, 2, none⟩ = some (.int .i64 x.no) from
                      fun w' hx => ⟨hx.blk hba id, hx.blk hbb id, cell_of (hx.blk hbx14 id) 1, cell_of (hx.blk hbx14 id) 2⟩)
                    have HEX := Lib.hid H14.out.ext
                    have hself : ((mkStr (logBytes L2)).toList == (mkStr (logBytes L2)).toList) = true := by simp
                    have hde : decide (r0.answer = r0.answer) = true := by simp
                    clear hF6 hA1 hba hbb hbx14 H14
                    refine wp_region_held_drew (S := fun w' => Ext w14 w') (by kernel_rfl) (Touch.drew (Touch.refl _ w14)) (fun hHeld => ?_)
                    refine wpAnyH_take (i := 0) (v := ?_) (List.getElem?_toArray.trans rfl) (by kernel_rfl) (by kernel_rfl) (by kernel_rfl) (fun _ _ _ h => h) (Or.inl ⟨by rfl, ?_⟩) (by assumption) ?_
                    rotate_left
                    · intro w' hw'
                      try dsimp only at hw'
                      skip
                      go_simp
                      try with_reducible rfl
                    try simp only [Act.put, List.setIfInBounds_toArray, List.set_cons_zero, List.set_cons_succ]
                    refine wpAnyH_take (i := 1) (v := ?_) (List.getElem?_toArray.trans rfl) (by kernel_rfl) (by kernel_rfl) (by kernel_rfl) (fun _ _ _ h => h) (Or.inl ⟨by rfl, ?_⟩) (by assumption) ?_
                    rotate_left
                    · intro w' hw'
                      try dsimp only at hw'
                      skip
                      go_simp
                      try with_reducible rfl
                    try simp only [Act.put, List.setIfInBounds_toArray, List.set_cons_zero, List.set_cons_succ]
                    refine wpAnyH_take (i := 2) (v := ?_) (List.getElem?_toArray.trans rfl) (by kernel_rfl) (by kernel_rfl) (by kernel_rfl) (fun _ _ _ h => h) (Or.inl ⟨by rfl, ?_⟩) (by assumption) ?_
                    rotate_left
                    · intro w' hw'
                      try dsimp only at hw'
                      skip
                      go_simp
                      try with_reducible rfl
                    try simp only [Act.put, List.setIfInBounds_toArray, List.set_cons_zero, List.set_cons_succ]
                    refine wpAnyH_take (i := 3) (v := ?_) (List.getElem?_toArray.trans rfl) (by kernel_rfl) (by kernel_rfl) (by kernel_rfl) (fun _ _ _ h => h) (Or.inl ⟨by rfl, ?_⟩) (by assumption) ?_
                    rotate_left
                    · intro w' hw'
                      try dsimp only at hw'
                      obtain ⟨hh1, hh2, hh3, hh4⟩ := HS4.out w' hw'
                      go_simp
                      try with_reducible rfl
                    try simp only [Act.put, List.setIfInBounds_toArray, List.set_cons_zero, List.set_cons_succ]
                    refine wpAnyH_take (i := 4) (v := ?_) (List.getElem?_toArray.trans rfl) (by kernel_rfl) (by kernel_rfl) (by kernel_rfl) (fun _ _ _ h => h) (Or.inl ⟨by rfl, ?_⟩) (by assumption) ?_
                    rotate_left
                    · intro w' hw'
                      try dsimp only at hw'
                      obtain ⟨hh1, hh2, hh3, hh4⟩ := HS4.out w' hw'
                      go_simp
                      try with_reducible rfl
                    try simp only [Act.put, List.setIfInBounds_toArray, List.set_cons_zero, List.set_cons_succ]
                    refine wpAnyH_take (i := 5) (v := ?_) (List.getElem?_toArray.trans rfl) (by kernel_rfl) (by kernel_rfl) (by kernel_rfl) (fun _ _ _ h => h) (Or.inl ⟨by rfl, ?_⟩) (by assumption) ?_
                    rotate_left
                    · intro w' hw'
                      try dsimp only at hw'
                      skip
                      go_simp
                      try with_reducible rfl
                    try simp only [Act.put, List.setIfInBounds_toArray, List.set_cons_zero, List.set_cons_succ]
                    refine wpAnyH_take (i := 6) (v := ?_) (List.getElem?_toArray.trans rfl) (by kernel_rfl) (by kernel_rfl) (by kernel_rfl) (fun _ _ _ h => h) (Or.inl ⟨by rfl, ?_⟩) (by assumption) ?_
                    rotate_left
                    · intro w' hw'
                      try dsimp only at hw'
                      skip
                      go_simp
                      try with_reducible rfl
                    try simp only [Act.put, List.setIfInBounds_toArray, List.set_cons_zero, List.set_cons_succ]
                    refine wpAnyH_take (i := 7) (v := ?_) (List.getElem?_toArray.trans rfl) (by kernel_rfl) (by kernel_rfl) (by kernel_rfl) (fun _ _ _ h => h) (Or.inl ⟨by rfl, ?_⟩) (by assumption) ?_
                    rotate_left
                    · intro w' hw'
                      try dsimp only at hw'
                      skip
                      go_simp
                      try with_reducible rfl
                    try simp only [Act.put, List.setIfInBounds_toArray, List.set_cons_zero, List.set_cons_succ]
                    refine wpAnyH_take (i := 8) (v := ?_) (List.getElem?_toArray.trans rfl) (by kernel_rfl) (by kernel_rfl) (by kernel_rfl) (fun _ _ _ h => h) (Or.inl ⟨by rfl, ?_⟩) (by assumption) ?_
                    rotate_left
                    · intro w' hw'
                      try dsimp only at hw'
                      skip
                      go_simp
                      try with_reducible rfl
                    try simp only [Act.put, List.setIfInBounds_toArray, List.set_cons_zero, List.set_cons_succ]
                    refine wpAnyH_take (i := 9) (v := ?_) (List.getElem?_toArray.trans rfl) (by kernel_rfl) (by kernel_rfl) (by kernel_rfl) (fun _ _ _ h => h) (Or.inl ⟨by rfl, ?_⟩) (by assumption) ?_
                    rotate_left
                    · intro w' hw'
                      try dsimp only at hw'
                      skip
                      go_simp
                      try with_reducible rfl
                    try simp only [Act.put, List.setIfInBounds_toArray, List.set_cons_zero, List.set_cons_succ]
                    refine wpAnyH_take (i := 10) (v := ?_) (List.getElem?_toArray.trans rfl) (by kernel_rfl) (by kernel_rfl) (by kernel_rfl) (fun _ _ _ h => h) (Or.inl ⟨by rfl, ?_⟩) (by assumption) ?_
                    rotate_left
                    · intro w' hw'
                      try dsimp only at hw'
                      skip
                      go_simp
                      try with_reducible rfl
                    try simp only [Act.put, List.setIfInBounds_toArray, List.set_cons_zero, List.set_cons_succ]
                    refine wpAnyH_take (i := 11) (v := ?_) (List.getElem?_toArray.trans rfl) (by kernel_rfl) (by kernel_rfl) (by kernel_rfl) (fun _ _ _ h => h) (Or.inl ⟨by rfl, ?_⟩) (by assumption) ?_
                    rotate_left
                    · intro w' hw'
                      try dsimp only at hw'
                      skip
                      go_simp
                      try with_reducible rfl
                    try simp only [Act.put, List.setIfInBounds_toArray, List.set_cons_zero, List.set_cons_succ]
                    refine wpAnyH_take (i := 12) (v := ?_) (List.getElem?_toArray.trans rfl) (by kernel_rfl) (by kernel_rfl) (by kernel_rfl) (fun _ _ _ h => h) (Or.inl ⟨by rfl, ?_⟩) (by assumption) ?_
                    rotate_left
                    · intro w' hw'
                      try dsimp only at hw'
                      skip
                      go_simp
                      try with_reducible rfl
                    try simp only [Act.put, List.setIfInBounds_toArray, List.set_cons_zero, List.set_cons_succ]
                    refine wpAnyH_take (i := 15) (v := ?_) (List.getElem?_toArray.trans rfl) (by kernel_rfl) (by kernel_rfl) (by kernel_rfl) (fun _ _ _ h => h) (Or.inl ⟨by rfl, ?_⟩) (by assumption) ?_
                    rotate_left
                    · intro w' hw'
                      try dsimp only at hw'
                      skip
                      go_simp
                      try with_reducible rfl
                    try simp only [Act.put, List.setIfInBounds_toArray, List.set_cons_zero, List.set_cons_succ]
                    refine wpAnyH_ready (rs := [13]) (by kernel_rfl) (by simp) ?_
                    refine AllReadyH.cons (List.getElem?_toArray.trans rfl) (fun K hK => ?_) AllReadyH.nil
                    go_simp
                    go_at_call 23
                    refine (store_log_at _ gs f1 u1 L2 (HA1.out.ext (Touch.drew (Touch.refl _ w14))) HOK2.out).mono ?_
                    rintro e w15 ⟨A15, c15, rfl, ho15, hx15', _⟩
                    have hx15 : Ext w14 w15 := (Touch.drew (Touch.refl _ w14)).trans hx15'
                    have HO15 := Lib.hid (show Owns w15 5 (.slice A15 (logBytes L2).length c15) (logBytes L2) from ho15)
                    have HX15 := Lib.hid hx15
                    clear ho15 hx15'
                    refine hK.out _ _ hx15 (fun _ => ?_)
                    clear hK K
                    try simp only [Act.put, List.setIfInBounds_toArray, List.set_cons_zero, List.set_cons_succ]
                    refine wpAnyH_more (S' := fun w' => Ext w15 w') (fun w' h => hx15.trans h) _ _ _ _ ?_
                    clear hx15 hHeld
                    have hHeld : Ext w15 w15 := Touch.refl _ _
                    refine wpAnyH_take (i := 14) (v := ?_) (List.getElem?_toArray.trans rfl) (by kernel_rfl) (by kernel_rfl) (by kernel_rfl) (fun _ _ _ h => h) (Or.inl ⟨by rfl, ?_⟩) (by assumption) ?_
                    rotate_left
                    · intro w' hw'
                      try dsimp only at hw'
                      have hcv := conv_log (HO15.out.ext hw')
                      go_simp
                      try with_reducible rfl
                    try simp only [Act.put, List.setIfInBounds_toArray, List.set_cons_zero, List.set_cons_succ]
                    refine wpAnyH_take (i := 16) (v := ?_) (List.getElem?_toArray.trans rfl) (by kernel_rfl) (by kernel_rfl) (by kernel_rfl) (fun _ _ _ h => h) (Or.inl ⟨by rfl, ?_⟩) (by assumption) ?_
                    rotate_left
                    · intro w' hw'
                      try dsimp only at hw'
                      skip
                      go_simp
                      try with_reducible rfl
                    try simp only [Act.put, List.setIfInBounds_toArray, List.set_cons_zero, List.set_cons_succ]
                    refine wpAnyH_take (i := 17) (v := ?_) (List.getElem?_toArray.trans rfl) (by kernel_rfl) (by kernel_rfl) (by kernel_rfl) (fun _ _ _ h => h) (Or.inl ⟨by rfl, ?_⟩) (by assumption) ?_
                    rotate_left
                    · intro w' hw'
                      try dsimp only at hw'
                      skip
                      go_simp
                      try with_reducible rfl
                    try simp only [Act.put, List.setIfInBounds_toArray, List.set_cons_zero, List.set_cons_succ]
                    refine wpAnyH_take (i := 18) (v := ?_) (List.getElem?_toArray.trans rfl) (by kernel_rfl) (by kernel_rfl) (by kernel_rfl) (fun _ _ _ h => h) (Or.inl ⟨by rfl, ?_⟩) (by assumption) ?_
                    rotate_left
                    · intro w' hw'
                      try dsimp only at hw'
                      skip
                      go_simp
                      try with_reducible rfl
                    try simp only [Act.put, List.setIfInBounds_toArray, List.set_cons_zero, List.set_cons_succ]
                    refine wpAnyH_take (i := 19) (v := ?_) (List.getElem?_toArray.trans rfl) (by kernel_rfl) (by kernel_rfl) (by kernel_rfl) (fun _ _ _ h => h) (Or.inl ⟨by rfl, ?_⟩) (by assumption) ?_
                    rotate_left
                    · intro w' hw'
                      try dsimp only at hw'
                      skip
                      go_simp
                      try with_reducible rfl
                    try simp only [Act.put, List.setIfInBounds_toArray, List.set_cons_zero, List.set_cons_succ]
                    refine wpAnyH_take (i := 20) (v := ?_) (List.getElem?_toArray.trans rfl) (by kernel_rfl) (by kernel_rfl) (by kernel_rfl) (fun _ _ _ h => h) (Or.inl ⟨by rfl, ?_⟩) (by assumption) ?_
                    rotate_left
                    · intro w' hw'
                      try dsimp only at hw'
                      skip
                      go_simp
                      try with_reducible rfl
                    try simp only [Act.put, List.setIfInBounds_toArray, List.set_cons_zero, List.set_cons_succ]
                    refine wpAnyH_take (i := 21) (v := ?_) (List.getElem?_toArray.trans rfl) (by kernel_rfl) (by kernel_rfl) (by kernel_rfl) (fun _ _ _ h => h) (Or.inl ⟨by rfl, ?_⟩) (by assumption) ?_
                    rotate_left
                    · intro w' hw'
                      try dsimp only at hw'
                      obtain ⟨hh1, hh2, hh3, hh4⟩ := HS4.out w' (HX15.out.trans hw')
                      go_simp
                      try with_reducible rfl
                    try simp only [Act.put, List.setIfInBounds_toArray, List.set_cons_zero, List.set_cons_succ]
                    refine wpAnyH_take (i := 23) (v := ?_) (List.getElem?_toArray.trans rfl) (by kernel_rfl) (by kernel_rfl) (by kernel_rfl) (fun _ _ _ h => h) (Or.inl ⟨by rfl, ?_⟩) (by assumption) ?_
                    rotate_left
                    · intro w' hw'
                      try dsimp only at hw'
                      skip
                      go_simp
                      try with_reducible rfl
                    try simp only [Act.put, List.setIfInBounds_toArray, List.set_cons_zero, List.set_cons_succ]
                    refine wpAnyH_take (i := 24) (v := ?_) (List.getElem?_toArray.trans rfl) (by kernel_rfl) (by kernel_rfl) (by kernel_rfl) (fun _ _ _ h => h) (Or.inl ⟨by rfl, ?_⟩) (by assumption) ?_
                    rotate_left
                    · intro w' hw'
                      try dsimp only at hw'
                      obtain ⟨hh1, hh2, hh3, hh4⟩ := HS4.out w' (HX15.out.trans hw')
                      go_simp
                      try with_reducible rfl
                    try simp only [Act.put, List.setIfInBounds_toArray, List.set_cons_zero, List.set_cons_succ]
                    refine wpAnyH_ready (rs := [22]) (by kernel_rfl) (by simp) ?_
                    refine AllReadyH.cons (List.getElem?_toArray.trans rfl) (fun K hK => ?_) AllReadyH.nil
                    go_simp
                    go_at_call 30
                    refine (store_last _ gs f1 u1 L2 (HA1.out.ext HX15.out) HOK2.out.each x.client).mono ?_
                    rintro e w16 ⟨rfl, hw16⟩
                    rw [HLN.out]
                    have hx16 : Ext w15 w16 := hw16 ▸ Touch.refl _ _
                    have HX16 := Lib.hid (HX15.out.trans hx16)
                    clear hw16
                    refine hK.out _ _ hx16 (fun _ => ?_)
                    clear hK K
                    try simp only [Act.put, List.setIfInBounds_toArray, List.set_cons_zero, List.set_cons_succ]
                    refine wpAnyH_more (S' := fun w' => Ext w16 w') (fun w' h => hx16.trans h) _ _ _ _ ?_
                    clear hx16 hHeld
                    have hHeld : Ext w16 w16 := Touch.refl _ _
                    refine wpAnyH_take (i := 25) (v := ?_) (List.getElem?_toArray.trans rfl) (by kernel_rfl) (by kernel_rfl) (by kernel_rfl) (fun _ _ _ h => h) (Or.inl ⟨by rfl, ?_⟩) (by assumption) ?_
                    rotate_left
                    · intro w' hw'
                      try dsimp only at hw'
                      skip
                      go_simp
                      try with_reducible rfl
                    try simp only [Act.put, List.setIfInBounds_toArray, List.set_cons_zero, List.set_cons_succ]
                    refine wpAnyH_take (i := 26) (v := ?_) (List.getElem?_toArray.trans rfl) (by kernel_rfl) (by kernel_rfl) (by kernel_rfl) (fun _ _ _ h => h) (Or.inl ⟨by rfl, ?_⟩) (by assumption) ?_
                    rotate_left
                    · intro w' hw'
                      try dsimp only at hw'
                      skip
                      go_simp
                      try with_reducible rfl
                    try simp only [Act.put, List.setIfInBounds_toArray, List.set_cons_zero, List.set_cons_succ]
                    refine wpAnyH_take (i := 27) (v := ?_) (List.getElem?_toArray.trans rfl) (by kernel_rfl) (by kernel_rfl) (by kernel_rfl) (fun _ _ _ h => h) (Or.inl ⟨by rfl, ?_⟩) (by assumption) ?_
                    rotate_left
                    · intro w' hw'
                      try dsimp only at hw'
                      skip
                      go_simp
                      try with_reducible rfl
                    try simp only [Act.put, List.setIfInBounds_toArray, List.set_cons_zero, List.set_cons_succ]
                    refine wpAnyH_done (by kernel_rfl) ?_ _
                    go_wp2
                    go_ret
                    exact ⟨by first | rfl | simp, HEX.out.trans HX16.out⟩
              · have h0' : ((chestCall L x.client x.no x.call).1.2.2 != 0) = true := by simp [h0]
                have hz0 := chest_code h0
                rw [hz0] at H7 ⊢
                have hde : decide (Answer.zero = (⟨0, ⟨#[]⟩⟩ : Answer)) = true := by decide +kernel
                go_wp2
                go_ret
                exact ⟨by first | rfl | simp, H7.out.ext⟩
        · have HCH := Lib.hid hch
          clear hch
          go_wp2_with fail
          refine (law_greatCall' _ x.call false HG.out HX.out.call).mono ?_
          rintro e w3 ⟨rfl, rfl⟩
          have H3 := Lib.hid (H2a.out.step ((Touch.refl _ w2a).alloc (.cells x.call.cells 31)))
          have hbb3 := H3.out.blk
          have hck3 := cell_of hbb3 4
          generalize w2a.alloc (.cells x.call.cells 31) = w3 at H3 hbb3 hck3 ⊢
          clear hbb2 hlb2 ho2 H2a hck2
          go_wp2_with (first
            | (go_at_call 32; refine (ref_ischange' _ x.call.kind false (by have := HCH.out; simp; omega)).mono ?_; rintro e w4 ⟨rfl, rfl⟩)
            | fail)
          go_ret
          exact ⟨rfl, H3.out.ext⟩
end Go.Proofs.Ytalfbhhldfffkab
