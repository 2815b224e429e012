/- FilesApart: the walk of the law. -/
import Derived.Test.YtalfbhhldfffkaaFilesAll
import Derived.Test.YtalfbhhldfffkaaRead
namespace Go.Proofs.Ytalfbhhldfffkaa
open Go.RowKit

section
variable {X Y Z : Type} {S : Rep Y} {R : Rep X} {O : Rep Z} {W w : World} {y : Y} {x : X} {z : Z}
theorem Has.exch (h : Has ((S.and R).and O) W w ((y, x), z)) : Has ((S.and O).and R) W w ((y, z), x) := by
  obtain ⟨H, ⟨F, G, ⟨F1, F2, h1, h2, h3, h4⟩, hG, hd, hH⟩, h5⟩ := h.ex
  refine ⟨⟨H, ⟨fun k => F1 k ∨ G k, F2, ⟨F1, G, h1, hG, fun k hk hg => hd k ((h4 k).2 (.inl hk)) hg, fun k => Iff.rfl⟩, h2, fun k hk hf => ?_, fun k => ?_⟩, h5⟩, h.ext⟩
  · rcases hk with hk | hk
    · exact h3 k hk hf
    · exact hd k ((h4 k).2 (.inr hf)) hk
  · rw [hH k, h4 k]
    constructor
    · rintro ((h | h) | h)
      · exact .inl (.inl h)
      · exact .inr h
      · exact .inl (.inr h)
    · rintro ((h | h) | h)
      · exact .inl (.inl h)
      · exact .inr h
      · exact .inl (.inr h)
end
theorem files_begin {Y : Type} {S : Rep Y} {W w : World} {y : Y} (h : Has S W w y) : Has (S.and (repHolds w.heap.size 113 120)) W (w.alloc (.cells #[.slice none 0 0] 113)) (y, ([] : List FileD)) :=
  h.beside (G := foot w.heap.size (.slice none 0 0)) ((Touch.refl _ w).alloc _) ⟨_, fun _ => Iff.rfl, Holds.new w _ _⟩ (foot_new w)
theorem str_call3 {c : Call} (h : Call.Ok c) : StrCall c := ⟨h.2.1, h.2.2.1, h.2.2.2⟩
abbrev SC (b : Nat) : Rep (Unit × Array Value) := repNone.and (repBlock b 29)
def ApRel (W : World) (b g : Nat) (cc : Array Value) (l : List Call) (i : Value) (wr : World) : Prop :=
  ∃ k : Nat, i = .int .i64 k ∧ k ≤ l.length ∧ Has ((SC b).and (repHolds g 113 120)) W wr (((), cc), fdos [] (l.take k))
theorem allOf_at {l : List FileD} {j : Nat} {f : FileD} (h : l[j]? = some f) : (allOf l)[2 * j]? = some f.name ∧ (allOf l)[2 * j + 1]? = some f.text := by
  unfold allOf
  induction l generalizing j with
  | nil => simp at h
  | cons x l ih =>
    cases j with
    | zero => simp at h; subst h; simp
    | succ j =>
      obtain ⟨h1, h2⟩ := ih (j := j) (by simpa using h)
      rw [show 2 * (j + 1) = 2 * j + 1 + 1 by omega]
      simpa using ⟨h1, h2⟩
theorem Owns.length_eq {α : Type} [Lies α] {w : World} {e : TypeId} {A : Option Addr} {n c : Nat} {l : List α} (h : Owns w e (.slice A n c) l) : n = l.length := by
  obtain ⟨A', c', he, _⟩ := h.form
  cases he
  rfl
def PickRel {Y : Type} (Q : Rep Y) (W : World) (y : Y) (L : List FileD) (C : Call) (out i : Value) (wr : World) : Prop :=
  ∃ (j m n c : Nat) (A : Option Addr), i = .int .i64 m ∧ m = 2 * j ∧ j ≤ L.length ∧ out = .slice A n c ∧ Has (Q.and (repOwn 9)) W wr (y, (.slice A n c, allOf ((L.take j).filter (others C))))
theorem pick_yes {L : List FileD} {C : Call} {j : Nat} {f : FileD} (h : L[j]? = some f) (h1 : f.name ≠ C.name) (h2 : f.name ≠ C.to_) : allOf ((L.take (j + 1)).filter (others C)) = allOf ((L.take j).filter (others C)) ++ [f.name, f.text] := by
  unfold allOf
  rw [List.take_add_one, h, List.filter_append, List.flatMap_append]
  simp [others, h1, h2]
theorem pick_no {L : List FileD} {C : Call} {j : Nat} {f : FileD} (h : L[j]? = some f) (h1 : f.name = C.name ∨ f.name = C.to_) : allOf ((L.take (j + 1)).filter (others C)) = allOf ((L.take j).filter (others C)) := by
  unfold allOf
  rw [List.take_add_one, h, List.filter_append, List.flatMap_append]
  rcases h1 with h1 | h1 <;> simp [others, h1]
theorem files_do_has {Y : Type} {S : Rep Y} {W w : World} {g : Nat} {y : Y} {l : List FileD} {x : Call} (h : Has (S.and (repHolds g 113 120)) W w (y, l)) (hok : FOk l) (hst : StrCall x) :
    Calls Try.prog 52 #[.pointer (some ⟨g, 0, none⟩), .agg x.cells] w fun e w' => e = .returned (.agg (fdo l x).1.cells) ∧ Has (S.and (repHolds g 113 120)) W w' (y, (fdo l x).2) := by
  obtain ⟨F, hF, hm⟩ := h.snd
  exact (files_do w g F l x hF hok hst).mono fun e w' ⟨he, hq⟩ => ⟨he, hm _ _ hq⟩

theorem texts_yes2 (w : World) (B : Nat) (A A' : Option Addr) (n n' c c' : Nat) (l : List ByteArray) (hl : Reads w B A l) (hr : Reads w B A' l) (hn : n = l.length) (hn' : n' = l.length) (hm : n < 1000000) :
    Calls Try.prog 54 #[.slice A n c, .slice A' n' c'] w fun e w' => e = .returned (.bool true) ∧ Ext w w' := by
  subst hn
  subst hn'
  refine (ref_sameTexts w B A A' l l c c' hl hr hm (by omega)).mono ?_
  rintro e w' ⟨rfl, n, rfl⟩
  exact ⟨by simp, (Touch.refl _ w).drewN n⟩
theorem texts_yes (w : World) (B : Nat) (A A' : Option Addr) (n c c' : Nat) (l : List ByteArray) (hl : Reads w B A l) (hr : Reads w B A' l) (hn : l.length = n) (hm : n < 1000000) :
    Calls Try.prog 54 #[.slice A n c, .slice A' n c'] w fun e w' => e = .returned (.bool true) ∧ Ext w w' := by
  subst hn
  refine (ref_sameTexts w B A A' l l c c' hl hr hm (by omega)).mono ?_
  rintro e w' ⟨rfl, n, rfl⟩
  exact ⟨by simp, (Touch.refl _ w).drewN n⟩

set_option maxHeartbeats 1000000 in
set_option maxRecDepth 100000 in
theorem filesApart (W : World) (A : Option Addr) (c : Nat) (l : List Call) (C : Call) (hr : Reads W W.heap.size A l) (hs : ∀ x ∈ l, StrCall x) (hl : l.length ≤ 140737488351232) (hC : StrCall C) :
    Calls Try.prog 13 #[.slice A l.length c, .agg C.cells] W fun e w' => e = .returned (.bool true) ∧ Ext W w' := by
  have HR := Lib.hid hr
  have HS := Lib.hid hs
  have HC := Lib.hid hC
  have H0 := Lib.hid ((Has.none W).box C.cells 29)
  clear hr hs hC
  go_enter Try.func13, Try.ntmps13
  go_wp2_with fail
  refine (files_begun _).mono ?_
  rintro e w1 ⟨rfl, hx1⟩
  have H1 := Lib.hid (H0.out.step hx1)
  clear hx1
  go_wp2_with fail
  refine (law_greatCalls w1 A c l (HR.out.ext H1.out.ext) HS.out hl).mono ?_
  rintro e w2 ⟨b2, rfl, hb2, hx2⟩
  have H2 := Lib.hid (H1.out.step hx2)
  have hbb2 := H2.out.blk
  obtain ⟨hl2, ho2⟩ := Array.getElem?_eq_some_iff.1 hbb2
  have HB2 := Lib.hid hb2
  clear hx2 hb2 H0 H1
  cases b2 with
  | true =>
    go_wp2
    go_ret
    exact ⟨rfl, H2.out.ext⟩
  | false =>
    cases hg : greatB C with
    | true =>
      have HG := Lib.hid hg
      clear hg
      go_wp2_with (go_at_call 36; refine (law_greatCall' _ C true HG.out HC.out).mono ?_; rintro e w3 ⟨rfl, rfl⟩)
      go_ret
      exact ⟨rfl, H2.out.ext.alloc _⟩
    | false =>
      have HG := Lib.hid hg
      obtain ⟨hl150, hshort⟩ := HB2.out rfl
      have HSH := Lib.hid hshort
      clear hg hshort HB2
      go_wp2_with fail
      refine (law_greatCall' _ C false HG.out HC.out).mono ?_
      rintro e w3 ⟨rfl, rfl⟩
      have H3 := Lib.hid (H2.out.step ((Touch.refl _ w2).alloc (.cells C.cells 29)))
      generalize w2.alloc (.cells C.cells 29) = w3 at H3 ⊢
      clear hbb2 hl2 ho2 H2
      go_wp2_with fail
      refine (files_new w3).mono ?_
      rintro e w4 ⟨rfl, rfl⟩
      have H4 := Lib.hid (files_begin H3.out)
      generalize hgg : w3.heap.size = g at H4 ⊢
      generalize w3.alloc (.cells #[.slice none 0 0] 113) = w4 at H4 ⊢
      clear hgg H3
      go_wp2_with fail
      go_loopw [6] (fun i wr => ApRel W W.heap.size g C.cells l i wr) (fun i _ => l.length - (intOf i).toNat)
      case atStart => exact ⟨0, rfl, Nat.zero_le _, H4.out⟩
      case round =>
        clear H4
        obtain ⟨k, rfl, hk, hz⟩ := hrel
        have HZ := Lib.hid hz
        clear hz
        by_cases hlt : k < l.length
        · obtain ⟨x, hx⟩ : ∃ x, l[k]? = some x := ⟨l[k], by simp [hlt]⟩
          obtain ⟨ad, rfl, hadb, hat⟩ := HR.out _ x hx
          have hLV : LV Try.prog 29 (ad.add (k * 4)) wr = .ok (.agg x.cells) wr := LV_Call ((hat.of_same (w' := wr) (by rw [show (ad.add (k * Lies.size Call)).block = ad.block by unfold Addr.add; split <;> rfl]; exact HZ.out.ext.block _ hadb id)))
          have HXK := Lib.hid hx
          clear hx hat
          go_wp2_with (go_at_call 52
                       refine (files_do_has HZ.out (fdos_ok FOk.nil _) (HS.out x (List.mem_of_getElem? HXK.out))).mono ?_
                       rintro e w5 ⟨rfl, hz5⟩
                       rw [← fdos_take HXK.out] at hz5
                       have HZ5 := Lib.hid hz5
                       clear hz5)
          go_roundw
          case rel => exact ⟨k + 1, by go_num, by omega, HZ5.out⟩
          case measure => simp [intOf]; omega
        · obtain rfl : k = l.length := by omega
          have HL := Lib.hid (show FOk (fdos [] (l.take l.length)) from fdos_ok FOk.nil _)
          generalize fdos [] (l.take l.length) = L at HZ HL
          have HL' := Lib.hid (fdo_ok HL.out C)
          have HFA := Lib.hid (fdo_apart HL.out C)
          have HFS := Lib.hid (fun h => fdo_same (l := L) (c := C) h)
          have HFT := Lib.hid (fun h => fdo_code_text (l := L) (c := C) h)
          have hL6 := HL.out.len
          have hL6' := HL'.out.len
          go_wp2_with fail
          refine (law_all _ _ W wr g L HZ.out HL.out).mono ?_
          rintro e w5 ⟨A5, c5, rfl, hz5⟩
          have hb5 := hz5.left.left.blk
          obtain ⟨hl5, ho5⟩ := Array.getElem?_eq_some_iff.1 hb5
          have H5 := Lib.hid hz5.exch
          clear hz5 HZ
          go_wp2_with fail
          refine (files_do_has (x := C) H5.out HL.out HC.out).mono ?_
          rintro e w6 ⟨rfl, hz6⟩
          generalize (fdo L C).1 = a at *
          generalize (fdo L C).2 = L' at *
          have H6 := Lib.hid (hz6.box a.cells 31).exch
          generalize hbq : w6.heap.size = q at H6 ⊢
          clear hz6 H5 hb5 hl5 ho5
          go_wp2_with fail
          refine (law_all _ _ W _ g L' H6.out HL'.out).mono ?_
          rintro e w8 ⟨A8, c8, rfl, hz8⟩
          have H8 := Lib.hid hz8
          have hbA := hz8.left.left.blk
          have hbC := hz8.left.left.left.left.blk
          obtain ⟨hlA, hoA⟩ := Array.getElem?_eq_some_iff.1 hbA
          obtain ⟨hlC, hoC⟩ := Array.getElem?_eq_some_iff.1 hbC
          have hcA0 := cell_of hbA 0
          have hcA1 := cell_of hbA 1
          have hcC0 := cell_of hbC 0
          have hcC1 := cell_of hbC 1
          have hcC2 := cell_of hbC 2
          clear hz8 H6
          have HRA := Lib.hid H8.out.left.left.left.right.owns.reads
          have HRB := Lib.hid H8.out.right.owns.reads
          by_cases hcode : a.code = 0
          · have hc1 : (a.code == 0) = true := by simp [hcode]
            have hc2 : (a.code != 0) = false := by simp [hcode]
            clear hcode HFT
            by_cases hch : 1 ≤ C.kind ∧ C.kind ≤ 4
            · have HCH := Lib.hid hch
              clear hch HFS
              go_wp2_with (go_at_call 57; refine (files_changes _ C.kind true (by have := HCH.out; simp; omega)).mono ?_; rintro e w9 ⟨rfl, rfl⟩)
              generalize hn5 : 2 * L.length = n5 at *
              generalize hn8 : 2 * L'.length = n8 at *
              have HN5 := Lib.hid hn5
              have HN8 := Lib.hid hn8
              have hn5' : n5 ≤ 12 := by omega
              have hn8' : n8 ≤ 12 := by omega
              clear hn5 hn8 hcC0 hcC1 hcC2 hlC hoC hbC hcA0 hcA1 hlA hoA hbA hc1 hc2
              have HS0 := Lib.hid (H8.out.newList (E := 9) (l := ([] : List ByteArray)) (v := .slice none 0 0) (Touch.refl _ _) (Owns.nil _ _) (fun k hk => by simp [Value.ownBlock] at hk))
              go_loopw [10, 12] (fun x i wr => PickRel _ W _ L C x i wr) (fun _ i _ => n5 - (intOf i).toNat)
              case atStart => exact ⟨0, 0, 0, 0, none, rfl, rfl, Nat.zero_le _, rfl, HS0.out⟩
              case round =>
                obtain ⟨j, m, n, c, A0, rfl, hm, hj, rfl, hz⟩ := hrel
                have HZ := Lib.hid hz
                have HM := Lib.hid hm
                clear hz hm
                have hbC := HZ.out.left.left.left.left.left.blk
                have hcC1 := cell_of hbC 1
                have hcC2 := cell_of hbC 2
                by_cases hlt : j < L.length
                · obtain ⟨f, hf⟩ : ∃ f, L[j]? = some f := ⟨L[j], by simp [hlt]⟩
                  have hlen : m + 1 < n5 := by have := HM.out; have := HN5.out; omega
                  have hlen' : (m : Int) + 1 < n5 := by omega
                  have hlm : m < n5 := by omega
                  have hwm : IntKind.i64.wrap ((m : Int) + 1) = (m : Int) + 1 := by rw [IntKind.wrap_i64]; omega
                  have hwn : ((m : Int) + 1).toNat = m + 1 := by omega
                  have hlm' : (m : Int) < n5 := by omega
                  obtain ⟨ha1, ha2⟩ := allOf_at hf
                  rw [← HM.out] at ha1 ha2
                  obtain ⟨ad, rfl, _⟩ := HZ.out.left.left.left.left.right.owns.reads m f.name ha1
                  obtain ⟨hb1, hd1⟩ := names_at HZ.out.left.left.left.left ha1
                  obtain ⟨hb2, hd2⟩ := names_at HZ.out.left.left.left.left ha2
                  have hd3 : wr.cell? ⟨ad.block, ad.off + (m + 1), none⟩ = some (.string f.text) := by rw [← hd2]; simp [Addr.add]
                  have hm0 : (0 : Int) ≤ (m : Int) + 1 := by omega
                  have HFJ := Lib.hid hf
                  have hm12 : m ≤ 12 := by omega
                  have hnl := HZ.out.right.owns.length_eq
                  have hflen : (allOf ((L.take j).filter (others C))).length ≤ 12 := by
                    rw [length_allOf]
                    have h1 : ((L.take j).filter (others C)).length ≤ (L.take j).length := List.length_filter_le _ _
                    have h2 : (L.take j).length ≤ j := by rw [List.length_take]; omega
                    omega
                  have HNL := Lib.hid hnl
                  have hn14 : n ≤ 12 := by omega
                  clear ha1 ha2 hf hnl hflen
                  by_cases e1 : f.name = C.name
                  · have he1 : (f.name.toList == C.name.toList) = true := by rw [e1]; simp
                    have HE := Lib.hid (pick_no HFJ.out (.inl e1))
                    clear e1
                    go_wp2_with fail
                    go_quiet (fail)
                    go_wp2
                    go_roundw
                    case rel => exact ⟨j + 1, m + 2, n, c, A0, by go_num, by have := HM.out; omega, hlt, rfl, by rw [HE.out]; exact HZ.out.step ((Touch.refl _ wr).drewN nq)⟩
                    case measure => simp [intOf]; omega
                  · have he1 : (f.name.toList == C.name.toList) = false := beq_eq_false_iff_ne.2 fun h => e1 (toList_inj h)
                    by_cases e2 : f.name = C.to_
                    · have he2 : (f.name.toList == C.to_.toList) = true := by rw [e2]; simp
                      have HE := Lib.hid (pick_no HFJ.out (.inr e2))
                      clear e1 e2
                      go_wp2_with fail
                      go_quiet (fail)
                      go_wp2
                      go_roundw
                      case rel => exact ⟨j + 1, m + 2, n, c, A0, by go_num, by have := HM.out; omega, hlt, rfl, by rw [HE.out]; exact HZ.out.step ((Touch.refl _ wr).drewN nq)⟩
                      case measure => simp [intOf]; omega
                    · have he2 : (f.name.toList == C.to_.toList) = false := beq_eq_false_iff_ne.2 fun h => e2 (toList_inj h)
                      have HE := Lib.hid (pick_yes HFJ.out e1 e2)
                      clear e1 e2
                      go_wp2_with fail
                      go_quiet (fail)
                      go_wp2
                      go_region_law (first
                        | (refine step_append_own (by rfl) (.tmp 87) (.tmp 97) 89 (by rfl) elemString Try.underlying89 (v := .slice A0 n c) (l := allOf ((L.take j).filter (others C))) (by rfl) (HZ.out.right.owns.ext (by exact (((Touch.refl _ wr).drewN nq).alloc _).drew)) [f.name, f.text] (by rfl) (n + 2) (by rw [← HNL.out]; rfl) (by rfl) (reads_row (b := wr.heap.size) (cs := #[.string f.name, .string f.text]) (T := 9) (fr := (0, 0)) (by exact heap_alloc_new (wr.drewN nq) _) (l := [f.name, f.text]) (fun j v hv => by rw [flat_cons, flat_one] at hv; have hv : [Value.string f.name, Value.string f.text][j]? = some v := hv; simpa using hv) (B := wr.heap.size + 1) (by omega)) (by rw [← HNL.out]; show (n + 2) * 16 ≤ 140737488355328; omega) ?_
                           intro A2 c2 w2 hown hgrow hat
                           have HA := Lib.hid (HZ.out.append (by exact (((Touch.refl _ wr).drewN nq).alloc _).drew) hown hgrow hat)
                           clear hown hgrow hat))
                      all_goals
                        go_wp2
                        go_roundw
                        case rel => exact ⟨j + 1, m + 2, n + 2, c2, A2, by go_num, by have := HM.out; omega, hlt, rfl, by rw [HE.out]; exact HA.out⟩
                        case measure => simp [intOf]; omega
                · obtain rfl : j = L.length := by omega
                  have hno : ((m : Int) + 1 < (n5 : Int)) = False := by simp; have := HM.out; have := HN5.out; omega
                  have hm12 : (m : Int) ≤ 12 := by have := HM.out; omega
                  have h9 := HZ.out
                  rw [List.take_length] at h9
                  have H9 := Lib.hid h9
                  clear h9 HZ hbC hcC1 hcC2 HS0 hj
                  go_wp2_with fail
                  have HS0 := Lib.hid (H9.out.newList (E := 9) (l := ([] : List ByteArray)) (v := .slice none 0 0) (Touch.refl _ _) (Owns.nil _ _) (fun k hk => by simp [Value.ownBlock] at hk))
                  go_loopw [11, 13] (fun x i wr => PickRel _ W _ L' C x i wr) (fun _ i _ => n8 - (intOf i).toNat)
                  case atStart => exact ⟨0, 0, 0, 0, none, rfl, rfl, Nat.zero_le _, rfl, HS0.out⟩
                  case round =>
                    obtain ⟨j, m, n, c, A0, rfl, hm, hj, rfl, hz⟩ := hrel
                    have HZ := Lib.hid hz
                    have HM := Lib.hid hm
                    clear hz hm
                    have hbC := HZ.out.left.left.left.left.left.left.blk
                    have hcC1 := cell_of hbC 1
                    have hcC2 := cell_of hbC 2
                    by_cases hlt : j < L'.length
                    · obtain ⟨f, hf⟩ : ∃ f, L'[j]? = some f := ⟨L'[j], by simp [hlt]⟩
                      have hlen : m + 1 < n8 := by have := HM.out; have := HN8.out; omega
                      have hlen' : (m : Int) + 1 < n8 := by omega
                      have hlm : m < n8 := by omega
                      have hwm : IntKind.i64.wrap ((m : Int) + 1) = (m : Int) + 1 := by rw [IntKind.wrap_i64]; omega
                      have hwn : ((m : Int) + 1).toNat = m + 1 := by omega
                      have hlm' : (m : Int) < n8 := by omega
                      obtain ⟨ha1, ha2⟩ := allOf_at hf
                      rw [← HM.out] at ha1 ha2
                      obtain ⟨ad, rfl, _⟩ := HZ.out.left.left.right.owns.reads m f.name ha1
                      obtain ⟨hb1, hd1⟩ := names_at HZ.out.left.left ha1
                      obtain ⟨hb2, hd2⟩ := names_at HZ.out.left.left ha2
                      have hd3 : wr.cell? ⟨ad.block, ad.off + (m + 1), none⟩ = some (.string f.text) := by rw [← hd2]; simp [Addr.add]
                      have hm0 : (0 : Int) ≤ (m : Int) + 1 := by omega
                      have HFJ := Lib.hid hf
                      have hm12 : m ≤ 12 := by omega
                      have hnl := HZ.out.right.owns.length_eq
                      have hflen : (allOf ((L'.take j).filter (others C))).length ≤ 12 := by
                        rw [length_allOf]
                        have h1 : ((L'.take j).filter (others C)).length ≤ (L'.take j).length := List.length_filter_le _ _
                        have h2 : (L'.take j).length ≤ j := by rw [List.length_take]; omega
                        omega
                      have HNL := Lib.hid hnl
                      have hn14 : n ≤ 12 := by omega
                      clear ha1 ha2 hf hnl hflen
                      by_cases e1 : f.name = C.name
                      · have he1 : (f.name.toList == C.name.toList) = true := by rw [e1]; simp
                        have HE := Lib.hid (pick_no HFJ.out (.inl e1))
                        clear e1
                        go_wp2_with fail
                        go_quiet (fail)
                        go_wp2
                        go_roundw
                        case rel => exact ⟨j + 1, m + 2, n, c, A0, by go_num, by have := HM.out; omega, hlt, rfl, by rw [HE.out]; exact HZ.out.step ((Touch.refl _ wr).drewN nq)⟩
                        case measure => simp [intOf]; omega
                      · have he1 : (f.name.toList == C.name.toList) = false := beq_eq_false_iff_ne.2 fun h => e1 (toList_inj h)
                        by_cases e2 : f.name = C.to_
                        · have he2 : (f.name.toList == C.to_.toList) = true := by rw [e2]; simp
                          have HE := Lib.hid (pick_no HFJ.out (.inr e2))
                          clear e1 e2
                          go_wp2_with fail
                          go_quiet (fail)
                          go_wp2
                          go_roundw
                          case rel => exact ⟨j + 1, m + 2, n, c, A0, by go_num, by have := HM.out; omega, hlt, rfl, by rw [HE.out]; exact HZ.out.step ((Touch.refl _ wr).drewN nq)⟩
                          case measure => simp [intOf]; omega
                        · have he2 : (f.name.toList == C.to_.toList) = false := beq_eq_false_iff_ne.2 fun h => e2 (toList_inj h)
                          have HE := Lib.hid (pick_yes HFJ.out e1 e2)
                          clear e1 e2
                          go_wp2_with fail
                          go_quiet (fail)
                          go_wp2
                          go_region_law (first
                            | (refine step_append_own (by rfl) (.tmp 122) (.tmp 132) 89 (by rfl) elemString Try.underlying89 (v := .slice A0 n c) (l := allOf ((L'.take j).filter (others C))) (by rfl) (HZ.out.right.owns.ext (by exact (((Touch.refl _ wr).drewN nq).alloc _).drew)) [f.name, f.text] (by rfl) (n + 2) (by rw [← HNL.out]; rfl) (by rfl) (reads_row (b := wr.heap.size) (cs := #[.string f.name, .string f.text]) (T := 9) (fr := (0, 0)) (by exact heap_alloc_new (wr.drewN nq) _) (l := [f.name, f.text]) (fun j v hv => by rw [flat_cons, flat_one] at hv; have hv : [Value.string f.name, Value.string f.text][j]? = some v := hv; simpa using hv) (B := wr.heap.size + 1) (by omega)) (by rw [← HNL.out]; show (n + 2) * 16 ≤ 140737488355328; omega) ?_
                               intro A2 c2 w2 hown hgrow hat
                               have HA := Lib.hid (HZ.out.append (by exact (((Touch.refl _ wr).drewN nq).alloc _).drew) hown hgrow hat)
                               clear hown hgrow hat))
                          all_goals
                            go_wp2
                            go_roundw
                            case rel => exact ⟨j + 1, m + 2, n + 2, c2, A2, by go_num, by have := HM.out; omega, hlt, rfl, by rw [HE.out]; exact HA.out⟩
                            case measure => simp [intOf]; omega
                    · obtain rfl : j = L'.length := by omega
                      have hno8 : ((m : Int) + 1 < (n8 : Int)) = False := by simp; have := HM.out; have := HN8.out; omega
                      have hm12 : (m : Int) ≤ 12 := by have := HM.out; omega
                      have hn12 : (n8 : Int) ≤ 12 := by omega
                      have hZ := HZ.out
                      rw [List.take_length, HFA.out] at hZ
                      have HX1 := Lib.hid hZ.left.right.owns
                      have HX2 := Lib.hid hZ.right.owns
                      have HEX := Lib.hid hZ.ext
                      have hsh : (allOf (L.filter (others C))).length ≤ 12 := by
                        rw [length_allOf]
                        have h1 : (L.filter (others C)).length ≤ L.length := List.length_filter_le _ _
                        omega
                      have HSH2 := Lib.hid hsh
                      clear hZ HZ hbC hcC1 hcC2 HS0 hj H9 hsh
                      go_wp2_with (go_at_call 54; refine (texts_yes2 _ _ _ _ _ _ _ _ _ HX1.out.reads HX2.out.reads HX1.out.length_eq HX2.out.length_eq (by have := HX1.out.length_eq; have := HSH2.out; omega)).mono ?_; rintro e w9 ⟨rfl, hx9⟩; have HX9 := Lib.hid hx9; clear hx9)
                      go_ret
                      exact ⟨by first | rfl | simp [hn12], HEX.out.trans HX9.out⟩
            · obtain rfl := HFS.out (.inr hch)
              have HCH := Lib.hid hch
              clear hch HFS
              go_wp2_with (first
                | (go_at_call 57; refine (files_changes _ C.kind false (by have := HCH.out; simp; omega)).mono ?_; rintro e w9 ⟨rfl, rfl⟩)
                |
                  (go_at_call 54
                   refine (texts_yes w8 w8.heap.size A5 A8 _ c5 c8 (allOf L') HRA.out HRB.out (length_allOf _) (by omega)).mono ?_
                   rintro e w9 ⟨rfl, hx9⟩
                   have hbA9 := hx9.blk hbA id
                   obtain ⟨hlA9, hoA9⟩ := Array.getElem?_eq_some_iff.1 hbA9
                   have hcA90 := cell_of hbA9 0
                   have hcA91 := cell_of hbA9 1
                   have HX9 := Lib.hid hx9
                   clear hx9)
                )
              go_ret
              exact ⟨rfl, H8.out.ext.trans HX9.out⟩
          · have hc1 : (a.code == 0) = false := by simp [hcode]
            have hc2 : (a.code != 0) = true := by simp [hcode]
            obtain rfl := HFS.out (.inl hcode)
            have hat : a.text.toList = [] := by rw [HFT.out hcode]; exact noText_toList
            clear hcode HFS HFT
            go_wp2_with (first
              |
                (go_at_call 54
                 refine (texts_yes w8 w8.heap.size A5 A8 _ c5 c8 (allOf L') HRA.out HRB.out (length_allOf _) (by omega)).mono ?_
                 rintro e w9 ⟨rfl, hx9⟩
                 have hbA9 := hx9.blk hbA id
                 obtain ⟨hlA9, hoA9⟩ := Array.getElem?_eq_some_iff.1 hbA9
                 have hcA90 := cell_of hbA9 0
                 have hcA91 := cell_of hbA9 1
                 have HX9 := Lib.hid hx9
                 clear hx9)
              )
            go_ret
            exact ⟨rfl, H8.out.ext.trans HX9.out⟩
end Go.Proofs.Ytalfbhhldfffkaa
