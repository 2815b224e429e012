/- FilesBegun: SameTexts, greatCalls, filesBegun. -/
import Derived.Test.YtalfbhhldfffkabFiles8
namespace Go.Proofs.Ytalfbhhldfffkab
open Go.RowKit

set_option maxHeartbeats 400000 in
set_option maxRecDepth 100000 in
theorem ref_sameTexts (w : World) (B : Nat) (A A' : Option Addr) (l r : List ByteArray) (c c' : Nat) (hl : Reads w B A l) (hr : Reads w B A' r) (hm : l.length < 1000000) (hm' : r.length < 10000000) :
    Calls Try.prog 16 #[.slice A l.length c, .slice A' r.length c'] w (SamePost w l r) := by
  have H := Lib.hid hl
  have H' := Lib.hid hr
  clear hl hr
  by_cases hlen : l.length = r.length
  · have HL := Lib.hid hlen
    have e1 : ((l.length : Int) != (r.length : Int)) = false := by simp [hlen]
    clear hlen
    go_enter Try.func16, Try.ntmps16
    go_wp2
    go_loopw [5] (fun i wr => ∃ k n : Nat, wr = w.drewN n ∧ i = .int .i64 k ∧ k ≤ l.length ∧ l.take k = r.take k) (fun i _ => l.length - (intOf i).toNat)
    case atStart => exact ⟨0, 0, rfl, rfl, Nat.zero_le _, by simp⟩
    case round =>
      obtain ⟨k, n, rfl, rfl, hk, ht⟩ := hrel
      have HT := Lib.hid ht
      clear ht
      by_cases hlt : k < l.length
      · obtain ⟨p, hp⟩ : ∃ p, l[k]? = some p := ⟨l[k], by simp⟩
        have hlt' : k < r.length := by have := HL.out; omega
        obtain ⟨q, hq⟩ : ∃ q, r[k]? = some q := ⟨r[k], by simp⟩
        obtain ⟨ad, rfl, had, hrow⟩ := H.out k p hp
        obtain ⟨ad', rfl, had', hrow'⟩ := H'.out k q hq
        have h1 : w.cell? (ad.add k) = some (.string p) := by have := hrow 0 (.string p) rfl; rwa [addr_add_add, show k * Lies.size ByteArray + 0 = k from Nat.mul_one k] at this
        have h2 : w.cell? (ad'.add k) = some (.string q) := by have := hrow' 0 (.string q) rfl; rwa [addr_add_add, show k * Lies.size ByteArray + 0 = k from Nat.mul_one k] at this
        have HP := Lib.hid hp
        have HQ := Lib.hid hq
        clear hp hq hrow hrow'
        by_cases hpq : p = q
        · subst hpq
          go_wp2
          go_quiet (fail)
          go_wp2
          go_roundw
          case rel => exact ⟨k + 1, _, rfl, by go_num, by omega, take_succ_eq HP.out HQ.out HT.out⟩
          case measure => simp [intOf]; omega
        · have hd : (p.toList == q.toList) = false := beq_eq_false_iff_ne.2 fun e => hpq (toList_inj e)
          have HPQ := Lib.hid hpq
          clear hpq
          go_wp2
          go_quiet (fail)
          go_wp2
          go_ret
          exact ⟨by rw [decide_eq_false (by rintro rfl; have h1 := HP.out; rw [HQ.out] at h1; exact HPQ.out (Option.some.inj h1).symm)]; rfl, n + nq, by first | rfl | rw [World.drewN_drewN]⟩
      · go_wp2
        go_ret
        exact ⟨by rw [decide_eq_true (eq_of_take HL.out k (by omega) HT.out)]; rfl, n, rfl⟩
  · have e1 : ((l.length : Int) != (r.length : Int)) = true := by rw [bne_iff_ne]; omega
    have HL := Lib.hid hlen
    clear hlen
    go_enter Try.func16, Try.ntmps16
    go_wp2
    go_ret
    exact ⟨by rw [decide_eq_false (by rintro rfl; exact HL.out rfl)]; rfl, 0, rfl⟩

/-! ### greatCalls -/
def GreatCalls (W : World) (l : List Call) (e : Ending) (w' : World) : Prop :=
  ∃ b, e = .returned (.bool b) ∧ (b = false → l.length ≤ 150 ∧ ∀ x ∈ l, greatB x = false) ∧ Ext W w'
def GreatRel (W : World) (l : List Call) (i : Value) (wr : World) : Prop :=
  ∃ k : Nat, i = .int .i64 k ∧ k ≤ l.length ∧ (∀ (j : Nat) c, j < k → l[j]? = some c → greatB c = false) ∧ Ext W wr
set_option maxHeartbeats 1000000 in
set_option maxRecDepth 100000 in
theorem law_greatCalls (W : World) (A : Option Addr) (c : Nat) (l : List Call) (hr : Reads W W.heap.size A l) (hs : ∀ x ∈ l, StrCall x) (hl : l.length ≤ 140737488351232) :
    Calls Try.prog 12 #[.slice A l.length c] W (GreatCalls W l) := by
  have HR := Lib.hid hr
  have HS := Lib.hid hs
  clear hr hs
  go_enter Try.func12, Try.ntmps12
  go_wp2_with fail
  go_loopw [3] (fun i wr => GreatRel W l i wr) (fun i _ => l.length - (intOf i).toNat)
  case atStart => exact ⟨0, rfl, Nat.zero_le _, fun j c hj => by omega, Touch.refl _ W⟩
  case round =>
    obtain ⟨k, rfl, hk, hb, hx⟩ := hrel
    have HX := Lib.hid hx
    have HB := Lib.hid hb
    clear hx hb
    by_cases hlt : k < l.length
    · by_cases h200 : k < 200
      · have h200' : (k : Int) < 200 := by omega
        obtain ⟨x, hx⟩ : ∃ x, l[k]? = some x := ⟨l[k], by simp [hlt]⟩
        obtain ⟨ad, rfl, hadb, hat⟩ := HR.out _ x hx
        have hLV : LV Try.prog 31 (ad.add (k * 4)) wr = .ok (.agg x.cells) wr := LV_Call ((hat.of_same (w' := wr) (by rw [show (ad.add (k * Lies.size Call)).block = ad.block by unfold Addr.add; split <;> rfl]; exact HX.out.block _ hadb id)))
        have HXK := Lib.hid hx
        clear hx hat
        cases hg : greatB x with
        | true =>
          have HG := Lib.hid hg
          clear hg
          go_wp2_with (go_at_call 31; refine (law_greatCall' _ x true HG.out (HS.out x (List.mem_of_getElem? HXK.out))).mono ?_; rintro e w' ⟨rfl, rfl⟩)
          go_ret
          exact ⟨true, rfl, fun h => by (cases h), HX.out.alloc _⟩
        | false =>
          have HG := Lib.hid hg
          clear hg
          go_wp2_with (go_at_call 31; refine (law_greatCall' _ x false HG.out (HS.out x (List.mem_of_getElem? HXK.out))).mono ?_; rintro e w' ⟨rfl, rfl⟩)
          go_roundw
          case rel =>
            refine ⟨k + 1, by go_num, by omega, fun j c hj hc => ?_, HX.out.alloc _⟩
            by_cases e : j = k
            · subst e; rw [HXK.out] at hc; injection hc with hc; subst hc; exact HG.out
            · exact HB.out j c (by omega) hc
          case measure => simp [intOf]; omega
      · have h200' : ¬ (k : Int) < 200 := by omega
        have hbig : (150 : Int) < l.length := by omega
        go_wp2
        go_ret
        exact ⟨true, rfl, fun h => by (cases h), HX.out⟩
    · obtain rfl : k = l.length := by omega
      by_cases h150 : (150 : Int) < l.length
      · go_wp2
        go_ret
        exact ⟨true, rfl, fun h => by (cases h), HX.out⟩
      · go_wp2
        go_ret
        refine ⟨false, by simp, fun _ => ⟨by omega, fun x hx => ?_⟩, HX.out⟩
        obtain ⟨j, hj, e⟩ := List.getElem_of_mem hx
        exact HB.out j x hj (by rw [List.getElem?_eq_getElem hj, e])

/-! ### filesBegun -/
def fbA : ByteArray := ⟨#[97]⟩
def fbB : ByteArray := ⟨#[98]⟩
def fbT : ByteArray := ⟨#[120, 32, 121]⟩
theorem fbA_list : fbA.toList = [97] := by rw [ByteArray.toList_eq]; rfl
theorem fbB_list : fbB.toList = [98] := by rw [ByteArray.toList_eq]; rfl
theorem fbT_list : fbT.toList = [120, 32, 121] := by rw [ByteArray.toList_eq]; rfl
theorem fb1 : fdo [] ⟨1, fbB, noText, noText⟩ = (ans 0, [⟨fbB, noText⟩]) := by decide +kernel
theorem fb2 : fdo [⟨fbB, noText⟩] ⟨1, fbA, noText, noText⟩ = (ans 0, [⟨fbA, noText⟩, ⟨fbB, noText⟩]) := by decide +kernel
theorem fb3 : fdo [⟨fbA, noText⟩, ⟨fbB, noText⟩] ⟨4, fbB, noText, fbT⟩ = (ans 0, [⟨fbA, noText⟩, ⟨fbB, fbT⟩]) := by decide +kernel
theorem fb4 : fdo [⟨fbA, noText⟩, ⟨fbB, fbT⟩] ⟨5, fbB, noText, noText⟩ = (⟨0, fbT⟩, [⟨fbA, noText⟩, ⟨fbB, fbT⟩]) := by decide +kernel
theorem fb5 : fdo [⟨fbA, noText⟩, ⟨fbB, fbT⟩] ⟨6, noText, noText, noText⟩ = (⟨0, ⟨#[97, 32, 98]⟩⟩, [⟨fbA, noText⟩, ⟨fbB, fbT⟩]) := by decide +kernel

/-- An object of one's own, and blocks that it does not touch. -/
def Keep {X : Type} (R : Rep X) (W w : World) (x : X) (L : List (Nat × Obj)) : Prop :=
  ∃ F, R.on w F x ∧ (∀ k, F k → W.heap.size ≤ k) ∧ Ext W w ∧ ∀ p ∈ L, w.heap[p.1]? = some p.2 ∧ ¬ F p.1
section
variable {X : Type} {R : Rep X} {W w w' : World} {x : X} {L : List (Nat × Obj)}
theorem Keep.step (h : Keep R W w x L) : ∃ F, R.on w F x ∧ ∀ x' w', Moved R w F x' w' → Keep R W w' x' L := by
  obtain ⟨F, h1, h2, h3, h4⟩ := h
  refine ⟨F, h1, fun x' w' ⟨F', g1, g2, g3⟩ => ⟨F', g1, fun k hk => ?_, h3.then g2 fun k hk => .inr (h2 k hk), fun p hp => ?_⟩⟩
  · rcases g3 k hk with h | h
    · exact h2 k h
    · exact Nat.le_trans h3.size h
  · obtain ⟨e1, e2⟩ := h4 p hp
    refine ⟨g2.blk e1 e2, fun hk => ?_⟩
    have := (Array.getElem?_eq_some_iff.1 e1).1
    rcases g3 _ hk with h | h
    · exact e2 h
    · omega
theorem Keep.ext (h : Keep R W w x L) (hx : Ext w w') : Keep R W w' x L := by
  obtain ⟨F, h1, h2, h3, h4⟩ := h
  exact ⟨F, R.ext h1 hx, h2, h3.then hx fun _ h => h.elim, fun p hp => ⟨hx.blk (h4 p hp).1 id, (h4 p hp).2⟩⟩
theorem Keep.alloc (h : Keep R W w x L) (o : Obj) : Keep R W (w.alloc o) x ((w.heap.size, o) :: L) := by
  obtain ⟨F, h1, h2, h3, h4⟩ := h
  refine ⟨F, R.ext h1 ((Touch.refl _ w).alloc o), h2, h3.alloc o, fun p hp => ?_⟩
  rcases List.mem_cons.1 hp with rfl | hp
  · exact ⟨heap_alloc_new _ _, fun hk => by have := R.lt h1 _ hk; simp at this⟩
  · exact ⟨((Touch.refl (fun _ => False) w).alloc o).blk (h4 p hp).1 id, (h4 p hp).2⟩
theorem Keep.out (h : Keep R W w x L) : Ext W w ∧ ∀ p ∈ L, w.heap[p.1]? = some p.2 := by
  obtain ⟨F, h1, h2, h3, h4⟩ := h
  exact ⟨h3, fun p hp => (h4 p hp).1⟩
end
theorem files_do' (w : World) (g : Nat) (F : Nat → Prop) (l : List FileD) (x : Call) {r : Answer} {l' : List FileD} (h : (repHolds g 105 112).on w F l) (hok : FOk l) (hst : StrCall x) (hf : fdo l x = (r, l')) :
    Calls Try.prog 14 #[.pointer (some ⟨g, 0, none⟩), .agg x.cells] w fun e w' => e = .returned (.agg r.cells) ∧ Moved (repHolds g 105 112) w F l' w' :=
  (files_do w g F l x h hok hst).mono fun e w' ⟨he, hm⟩ => by rw [hf] at he hm; exact ⟨he, hm⟩
theorem files_start (W : World) : Keep (repHolds W.heap.size 105 112) W (W.alloc (.cells #[.slice none 0 0] 105)) ([] : List FileD) [] :=
  ⟨foot W.heap.size (.slice none 0 0), ⟨_, fun _ => Iff.rfl, Holds.new W _ _⟩, foot_new W, (Touch.refl _ W).alloc _, fun p hp => by cases hp⟩
theorem fbOk {l : List FileD} {x : Call} {r : Answer} {l' : List FileD} (h : fdo l x = (r, l')) (hl : FOk l) : FOk l' := by have := fdo_ok hl x; rwa [h] at this

theorem files_name' (w : World) (s : ByteArray) (b : Bool) (h : okText 97 122 5 s = b) (hs : s.size ≤ 140737488351232) :
    Calls Try.prog 18 #[.string s] w fun e w' => e = .returned (.bool b) ∧ w' = w := by
  subst h
  exact files_name w s hs
theorem fbStr1 : StrCall ⟨1, fbB, noText, noText⟩ := ⟨by decide, by decide, by decide⟩
theorem fbStr2 : StrCall ⟨1, fbA, noText, noText⟩ := ⟨by decide, by decide, by decide⟩
theorem fbStr3 : StrCall ⟨4, fbB, noText, fbT⟩ := ⟨by decide, by decide, by decide⟩
theorem fbStr4 : StrCall ⟨5, fbB, noText, noText⟩ := ⟨by decide, by decide, by decide⟩
theorem fbStr5 : StrCall ⟨6, noText, noText, noText⟩ := ⟨by decide, by decide, by decide⟩
set_option maxHeartbeats 1000000 in
set_option maxRecDepth 100000 in
theorem files_begun (W : World) : Calls Try.prog 11 #[] W fun e w' => e = .returned (.bool true) ∧ Ext W w' := by
  have K0 := Lib.hid (files_start W)
  have O0 := Lib.hid FOk.nil
  have O1 := Lib.hid (fbOk fb1 O0.out)
  have O2 := Lib.hid (fbOk fb2 O1.out)
  have O3 := Lib.hid (fbOk fb3 O2.out)
  have O4 := Lib.hid (fbOk fb4 O3.out)
  go_enter Try.func11, Try.ntmps11
  go_wp2_with (go_at_call 13; refine (files_new W).mono ?_; rintro e w' ⟨rfl, rfl⟩)
  obtain ⟨F1, hF1, hm1⟩ := K0.out.step
  refine (files_do' _ _ F1 _ ⟨1, fbB, noText, noText⟩ hF1 O0.out fbStr1 fb1).mono ?_
  rintro e w1 ⟨rfl, hq1⟩
  have K1 := Lib.hid ((hm1 _ _ hq1).alloc (.cells (ans 0).cells 28))
  clear hF1 hm1 hq1
  go_wp2_with fail
  obtain ⟨F2, hF2, hm2⟩ := K1.out.step
  refine (files_do' _ _ F2 _ ⟨1, fbA, noText, noText⟩ hF2 O1.out fbStr2 fb2).mono ?_
  rintro e w2 ⟨rfl, hq2⟩
  have K2 := Lib.hid ((hm2 _ _ hq2).alloc (.cells (ans 0).cells 28))
  clear hF2 hm2 hq2
  go_wp2_with fail
  obtain ⟨F3, hF3, hm3⟩ := K2.out.step
  refine (files_do' _ _ F3 _ ⟨4, fbB, noText, fbT⟩ hF3 O2.out fbStr3 fb3).mono ?_
  rintro e w3 ⟨rfl, hq3⟩
  have K3 := Lib.hid ((hm3 _ _ hq3).alloc (.cells (ans 0).cells 28))
  clear hF3 hm3 hq3
  go_wp2_with fail
  obtain ⟨F4, hF4, hm4⟩ := K3.out.step
  refine (files_do' _ _ F4 _ ⟨5, fbB, noText, noText⟩ hF4 O3.out fbStr4 fb4).mono ?_
  rintro e w4 ⟨rfl, hq4⟩
  have K4 := Lib.hid ((hm4 _ _ hq4).alloc (.cells (⟨0, fbT⟩ : Answer).cells 28))
  clear hF4 hm4 hq4
  go_wp2_with fail
  obtain ⟨F5, hF5, hm5⟩ := K4.out.step
  refine (files_do' _ _ F5 _ ⟨6, noText, noText, noText⟩ hF5 O4.out fbStr5 fb5).mono ?_
  rintro e w5 ⟨rfl, hq5⟩
  have K5 := hm5 _ _ hq5
  have hb1 := K5.out.2 (w1.heap.size, .cells (ans 0).cells 28) (by simp)
  have hb2 := K5.out.2 (w2.heap.size, .cells (ans 0).cells 28) (by simp)
  have hb3 := K5.out.2 (w3.heap.size, .cells (ans 0).cells 28) (by simp)
  have hb4 := K5.out.2 (w4.heap.size, .cells (⟨0, fbT⟩ : Answer).cells 28) (by simp)
  obtain ⟨hl1, ho1⟩ := Array.getElem?_eq_some_iff.1 hb1
  obtain ⟨hl2, ho2⟩ := Array.getElem?_eq_some_iff.1 hb2
  obtain ⟨hl3, ho3⟩ := Array.getElem?_eq_some_iff.1 hb3
  obtain ⟨hl4, ho4⟩ := Array.getElem?_eq_some_iff.1 hb4
  have EX := Lib.hid K5.out.1
  have hc4 := cell_of hb4 1
  simp only [] at hl1 hl2 hl3 hl4 ho1 ho2 ho3 ho4 hb1 hb2 hb3 hb4
  clear hF5 hm5 hq5 K5
  have hd0 : decide (ans 0 = (⟨0, ⟨#[]⟩⟩ : Answer)) = true := by decide +kernel
  have hd1 : decide (ans 0 = ans 0) = true := by decide +kernel
  have hft := fbT_list
  have hdt : (fbT.toList == (⟨#[120, 32, 121]⟩ : ByteArray).toList) = true := by decide +kernel
  have hdl : ((⟨#[97, 32, 98]⟩ : ByteArray).toList == (⟨#[97, 32, 98]⟩ : ByteArray).toList) = true := by decide +kernel
  go_wp2_with (first
    | (go_at_call 51; refine (files_check' _ ⟨0, noText, noText, noText⟩ 1 (by decide +kernel) ⟨by decide, by decide, by decide⟩).mono ?_; rintro e w6 ⟨rfl, hx6⟩; have HX6 := Lib.hid hx6; clear hx6)
    | (go_at_call 52; refine (files_changes _ 1 true (by decide)).mono ?_; rintro e w7 ⟨rfl, rfl⟩)
    | (go_at_call 52; refine (files_changes _ 5 false (by decide)).mono ?_; rintro e w8 ⟨rfl, rfl⟩))
  refine (files_name' w6 ⟨#[97, 98, 99, 100, 101]⟩ true (by decide +kernel) (by decide)).mono ?_
  rintro e w7 ⟨rfl, rfl⟩
  go_wp2
  go_ret
  exact ⟨rfl, (EX.out.alloc _).trans HX6.out⟩
end Go.Proofs.Ytalfbhhldfffkab
