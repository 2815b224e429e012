/- Codec7: the walk of the reference's RecordOf. -/
import Derived.Test.YtalfbhhldfffkabCodec5
namespace Go.Proofs.Ytalfbhhldfffkab
open Go.RowKit
attribute [local go_sem ↓] sliced_cut

structure RecAt (w wr : World) (bR bl : Nat) (X : List UInt8) (k p : Nat) (s : ByteArray × ByteArray × ByteArray) (rl : List UInt8) : Prop where
  st : DecSt ((X.take (X.getD 0 0).toNat).drop 5) k s rl
  at_ : rl = (X.take (X.getD 0 0).toNat).drop p
  le : 5 ≤ p ∧ p ≤ (X.getD 0 0).toNat
  ext : Ext w wr
  res : wr.heap[bR]? = some (.cells Record.zero.cells 49)
  arr : wr.heap[bl]? = some (.cells #[.string s.1, .string s.2.1, .string s.2.2] 150)
def RecRel (w : World) (bR bl : Nat) (X : List UInt8) (p i : Value) (wr : World) : Prop :=
  ∃ (k q : Nat) (s : ByteArray × ByteArray × ByteArray) (rl : List UInt8), i = .int .i64 k ∧ p = .int .i64 q ∧ k ≤ 3 ∧ RecAt w wr bR bl X k q s rl
theorem arr_set (s : ByteArray × ByteArray × ByteArray) (k : Nat) (hk : k < 3) (x : ByteArray) : (#[Value.string s.1, .string s.2.1, .string s.2.2]).setIfInBounds k (.string x) = #[.string (setStr k s x).1, .string (setStr k s x).2.1, .string (setStr k s x).2.2] := by
  obtain rfl | rfl | rfl : k = 0 ∨ k = 1 ∨ k = 2 := by omega
  all_goals rfl
set_option maxHeartbeats 4000000 in
set_option maxRecDepth 100000 in
theorem ref_recordOf (w : World) (A : Option Addr) (n c : Nat) (l : List UInt8) (h : BytesIn w.heap.size w A n c l) (hl : l.length ≤ 10000) :
    Calls Try.prog 60 #[.slice A n c] w (DecPost w l) := by
  have HB := Lib.hid h
  obtain ⟨rfl, hcap, hmax, hrd, _⟩ := h
  have hm := hmax
  unfold maxLen at hm
  cases l with
  | nil =>
    clear hrd
    go_enter Try.func60, Try.ntmps60
    go_wp2
    refine ret_rec rfl isRecord w.heap.size Record.zero rfl (heap_alloc_new _ _) rfl ⟨rfl, (Touch.refl _ w).alloc _⟩
  | cons x l =>
    obtain ⟨ad, rfl, hadb, hat⟩ := hrd 0 x rfl
    have hlen : (x :: l).length = l.length + 1 := rfl
    have hx1 : (0 : Int) ≤ x.toNat := by omega
    have hx2 : (x.toNat : Int) ≤ 255 := by have := x.toNat_lt; omega
    have HA := Lib.hid hadb
    have HR := Lib.hid hrd
    have hl2 : l.length ≤ 10000 := by simp at hl; omega
    have hcap' : l.length + 1 ≤ c := hcap
    have hz : ((l.length : Int) + 1 == 0) = false := beq_eq_false_iff_ne.2 (by omega)
    have hc0 : (w.alloc (.cells Record.zero.cells 49)).cell? ad = some (.int .u8 (x.toNat : Int)) := hat.of_same (Below.heap_alloc _ _ _ hadb) 0 _ rfl
    rw [hlen]
    clear hrd hat hl hcap hlen hadb
    by_cases hlt : l.length + 1 < x.toNat
    · have hd : decide ((l.length : Int) + 1 < (x.toNat : Int)) = true := decide_eq_true (by omega)
      have HD := Lib.hid (show decode (x :: l) = (Record.zero, 0, 8) from if_pos (.inr (by simpa using hlt)))
      clear hlt
      go_enter Try.func60, Try.ntmps60
      go_wp2
      refine ret_rec rfl isRecord w.heap.size Record.zero rfl (heap_alloc_new _ _) rfl ⟨?_, (Touch.refl _ w).alloc _⟩
      rw [HD.out]
      rfl
    have hd : decide ((l.length : Int) + 1 < (x.toNat : Int)) = false := decide_eq_false (by omega)
    by_cases h5 : x.toNat < 5
    · have h5' : (x.toNat : Int) < 5 := by omega
      have HD := Lib.hid (show decode (x :: l) = (Record.zero, 0, 3) from by unfold decode; rw [if_neg (by simpa using hlt), if_pos (by simpa using h5)])
      clear hlt
      go_enter Try.func60, Try.ntmps60
      go_wp2
      refine ret_rec rfl isRecord w.heap.size Record.zero rfl (heap_alloc_new _ _) rfl ⟨?_, (Touch.refl _ w).alloc _⟩
      rw [HD.out]
      rfl
    · have h5' : ¬ (x.toNat : Int) < 5 := by omega
      have HLT := Lib.hid hlt
      have H5 := Lib.hid h5
      clear hlt h5
      have h5l : 5 ≤ l.length + 1 := by have := HLT.out; have := H5.out; omega
      have SB := Lib.hid (show ∀ w', Ext w w' → w'.cell? ⟨ad.block, ad.off + 1, none⟩ = some (.int .u8 (((x :: l).getD 1 0).toNat : Int)) ∧ w'.cell? ⟨ad.block, ad.off + 2, none⟩ = some (.int .u8 (((x :: l).getD 2 0).toNat : Int)) ∧
          w'.cell? ⟨ad.block, ad.off + 3, none⟩ = some (.int .u8 (((x :: l).getD 3 0).toNat : Int)) ∧ w'.cell? ⟨ad.block, ad.off + 4, none⟩ = some (.int .u8 (((x :: l).getD 4 0).toNat : Int)) from fun w' hx' => by
        have key : ∀ k, k ≠ 0 → k < 5 → w'.cell? ⟨ad.block, ad.off + k, none⟩ = some (.int .u8 (((x :: l).getD k 0).toNat : Int)) := fun k hk0 hk => by
          have e : (x :: l)[k]? = some ((x :: l).getD k 0) := by rw [List.getD_eq_getElem?_getD, List.getElem?_eq_getElem (by simp; omega)]; rfl
          obtain ⟨ad', e1, _, hat⟩ := HR.out k _ e
          cases e1
          have e2 : ad.add (k * Lies.size UInt8) = ⟨ad.block, ad.off + k, none⟩ := by
            rw [show k * Lies.size UInt8 = k from Nat.mul_one k]; unfold Addr.add; rw [if_neg (by simpa using hk0)]
          rw [e2] at hat
          exact hat.of_same (hx'.block _ HA.out id) 0 _ rfl
        exact ⟨key 1 (by decide) (by decide), key 2 (by decide) (by decide), key 3 (by decide) (by decide), key 4 (by decide) (by decide)⟩)
      have y1 : (0 : Int) ≤ ((x :: l).getD 1 0).toNat ∧ (((x :: l).getD 1 0).toNat : Int) ≤ 255 := ⟨by omega, by have := ((x :: l).getD 1 0).toNat_lt; omega⟩
      generalize hY1 : (((x :: l).getD 1 0).toNat : Int) = Y1 at SB y1
      have y2 : (0 : Int) ≤ ((x :: l).getD 2 0).toNat ∧ (((x :: l).getD 2 0).toNat : Int) ≤ 255 := ⟨by omega, by have := ((x :: l).getD 2 0).toNat_lt; omega⟩
      generalize hY2 : (((x :: l).getD 2 0).toNat : Int) = Y2 at SB y2
      have y3 : (0 : Int) ≤ ((x :: l).getD 3 0).toNat ∧ (((x :: l).getD 3 0).toNat : Int) ≤ 255 := ⟨by omega, by have := ((x :: l).getD 3 0).toNat_lt; omega⟩
      generalize hY3 : (((x :: l).getD 3 0).toNat : Int) = Y3 at SB y3
      have y4 : (0 : Int) ≤ ((x :: l).getD 4 0).toNat ∧ (((x :: l).getD 4 0).toNat : Int) ≤ 255 := ⟨by omega, by have := ((x :: l).getD 4 0).toNat_lt; omega⟩
      generalize hY4 : (((x :: l).getD 4 0).toNat : Int) = Y4 at SB y4
      have HY := Lib.hid (show ∀ s, recOf (x :: l) s = ⟨Y1, Y2, ⟨Y3, s.1, s.2.1, s.2.2⟩, ⟨Y4, noText⟩⟩ from fun s => by unfold recOf; rw [hY1, hY2, hY3, hY4])
      clear hY1 hY2 hY3 hY4
      obtain ⟨y1a, y1b⟩ := y1
      obtain ⟨y2a, y2b⟩ := y2
      obtain ⟨y3a, y3b⟩ := y3
      obtain ⟨y4a, y4b⟩ := y4
      have b1 : (1 : Int) < (l.length : Int) + 1 := by omega
      have b2 : (2 : Int) < (l.length : Int) + 1 := by omega
      have b3 : (3 : Int) < (l.length : Int) + 1 := by omega
      have b4 : (4 : Int) < (l.length : Int) + 1 := by omega
      have d1 : 1 < l.length + 1 := by omega
      have d2 : 2 < l.length + 1 := by omega
      have d3 : 3 < l.length + 1 := by omega
      have d4 : 4 < l.length + 1 := by omega
      have hnl : (x.toNat : Int) ≤ l.length + 1 := by have := HLT.out; omega
      have hnc : (x.toNat : Int) ≤ c := by omega
      go_enter Try.func60, Try.ntmps60
      go_wp2
      have hR0 : RecAt w ((w.alloc (.cells Record.zero.cells 49)).alloc (.cells #[.string noText, .string noText, .string noText] 150)) w.heap.size (w.heap.size + 1) (x :: l) 0 5 (noText, noText, noText) (((x :: l).take x.toNat).drop 5) :=
        ⟨⟨rfl, rfl⟩, rfl, ⟨Nat.le_refl _, by show 5 ≤ x.toNat; omega⟩, ((Touch.refl _ w).alloc _).alloc _, by rw [heap_alloc_past _ _ _ (by simp)]; exact heap_alloc_new _ _, heap_alloc_at _ _ _ (by simp)⟩
      have R0 := Lib.hid hR0
      clear hR0 hc0
      change Code.wp Try.prog _ _ _ ((w.alloc (.cells Record.zero.cells 49)).alloc (.cells #[.string noText, .string noText, .string noText] 150))
      generalize (w.alloc (.cells Record.zero.cells 49)).alloc (.cells #[.string noText, .string noText, .string noText] 150) = w1 at R0 ⊢
      have hne : w.heap.size < w.heap.size + 1 := by omega
      generalize hbl : w.heap.size + 1 = bl at R0 hne ⊢
      generalize hbR : w.heap.size = bR at R0 hne ⊢
      have HBR := Lib.hid hbR
      clear hbl hbR
      go_loopw [7, 8] (fun p i wr => RecRel w bR bl (x :: l) p i wr) (fun _ i _ => 3 - (intOf i).toNat)
      case atStart => exact ⟨0, 5, _, _, rfl, rfl, by omega, R0.out⟩
      case round =>
        obtain ⟨k, q, s, rl, rfl, rfl, hk, hD⟩ := hrel
        have D := Lib.hid hD
        obtain ⟨hq1, hq2⟩ := hD.le
        have hq2 : q ≤ x.toNat := hq2
        have hrl : rl = ((x :: l).take x.toNat).drop q := hD.at_
        have hrll : rl.length + q = x.toNat := by rw [hrl, List.length_drop, List.length_take]; simp; have := HLT.out; omega
        have HRLL := Lib.hid hrll
        have HRL := Lib.hid hrl
        have hqi : (q : Int) ≤ x.toNat := by omega
        by_cases hlt : k < 3
        · have hki : (k : Int) < 3 := by omega
          cases rl with
          | nil =>
            have hqe : (x.toNat : Int) ≤ q := by simp at hrll; omega
            have HD := Lib.hid (show decode (x :: l) = (Record.zero, 0, 3) from by unfold decode; rw [if_neg (by simpa using HLT.out), if_neg (by simpa using H5.out), show ((x :: l).getD 0 0) = x from rfl, decSt_none (b := ((x :: l).take x.toNat).drop 5) D.out.st hlt rfl])
            have hb5 := D.out.res
            obtain ⟨hl5, hb5'⟩ := Array.getElem?_eq_some_iff.1 hb5
            clear hrl hrll hD
            go_wp2
            refine ret_rec rfl isRecord bR Record.zero rfl (setRow_heap _ _ _ _ _ _ D.out.res) rfl ⟨?_, D.out.ext.setRow (.inr (Nat.le_of_eq HBR.out)) _⟩
            rw [HD.out]
            rfl
          | cons y tl =>
            have hqe : (q : Int) < x.toNat := by simp at hrll; omega
            have hqn : (q : Int) < (l.length : Int) + 1 := by omega
            have hqe' : ¬ (x.toNat : Int) ≤ q := by omega
            have hy1 : (0 : Int) ≤ y.toNat := by omega
            have hy2 : (y.toNat : Int) ≤ 255 := by have := y.toNat_lt; omega
            have hgy : (x :: l)[q]? = some y := by
              have h1 : (((x :: l).take x.toNat).drop q)[0]? = some y := by rw [← hrl]; rfl
              rw [List.getElem?_drop, List.getElem?_take] at h1
              rw [Nat.add_zero] at h1
              split at h1
              · exact h1
              · cases h1
            have hcy : wr.cell? (ad.add q) = some (.int .u8 (y.toNat : Int)) := by
              obtain ⟨ad', e1, _, hat⟩ := HR.out q _ hgy
              cases e1
              rw [show q * Lies.size UInt8 = q from Nat.mul_one q] at hat
              exact hat.of_same (D.out.ext.block _ (by rw [show (ad.add q).block = ad.block by unfold Addr.add; split <;> rfl]; exact HA.out) id) 0 _ rfl
            have hcy' : wr.cell? ⟨ad.block, ad.off + q, none⟩ = some (.int .u8 (y.toNat : Int)) := by
              have e : ad.add q = ⟨ad.block, ad.off + q, none⟩ := by unfold Addr.add; rw [if_neg (by omega)]
              rw [← e]; exact hcy
            have hdr : ((x :: l).take x.toNat).drop (q + 1) = tl := by rw [← List.drop_drop, ← hrl]; rfl
            have HDR := Lib.hid hdr
            by_cases hyl : tl.length < y.toNat
            · have hyx : ¬ (q : Int) + 1 + y.toNat ≤ x.toNat := by simp at hrll; omega
              have hyd : decide ((x.toNat : Int) < (q : Int) + 1 + y.toNat) = true := decide_eq_true (by omega)
              have HD := Lib.hid (show decode (x :: l) = (Record.zero, 0, 3) from by unfold decode; rw [if_neg (by simpa using HLT.out), if_neg (by simpa using H5.out), show ((x :: l).getD 0 0) = x from rfl, decSt_none (b := ((x :: l).take x.toNat).drop 5) D.out.st hlt (if_pos hyl)])
              have hb5 := D.out.res
              obtain ⟨hl5, hb5'⟩ := Array.getElem?_eq_some_iff.1 hb5
              clear hrl hrll hD hgy hdr hyl
              go_wp2
              refine ret_rec rfl isRecord bR Record.zero rfl (setRow_heap _ _ _ _ _ _ D.out.res) rfl ⟨?_, D.out.ext.setRow (.inr (Nat.le_of_eq HBR.out)) _⟩
              rw [HD.out]
              rfl
            · have hyd : decide ((x.toNat : Int) < (q : Int) + 1 + y.toNat) = false := decide_eq_false (by simp at hrll; omega)
              have hyx : (q : Int) + 1 + y.toNat ≤ x.toNat := by simp at hrll; omega
              have hyc : (q : Int) + 1 + y.toNat ≤ c := by omega
              have hn := Lib.hid (show parseStr (y :: tl) = some (mkStr (tl.take y.toNat), tl.drop y.toNat) from if_neg hyl)
              have hg5 : wr.cell? ⟨bl, k, none⟩ = (#[Value.string s.1, .string s.2.1, .string s.2.2])[k]? := cell_of D.out.arr k
              have hg6 : ∃ v, (#[Value.string s.1, .string s.2.1, .string s.2.2])[k]? = some v := ⟨_, Array.getElem?_eq_getElem (by simp; omega)⟩
              obtain ⟨v6, hg6⟩ := hg6
              rw [hg6] at hg5
              have hf5 := frozen_of D.out.arr k
              have hcv : (convert 39 9 (.slice (cutA (some ad) c (q + 1) 1) y.toNat (c - (q + 1)))).run Try.prog wr = .ok (.string (mkStr (tl.take y.toNat))) wr := by
                have h1 := ((HR.out.ext D.out.ext).cutA (m := c) (by simp; omega) (q + 1)).take y.toNat
                have e1 : ((x :: l).drop (q + 1)).take y.toNat = tl.take y.toNat := by
                  rw [← hdr, List.drop_take, List.take_take]
                  congr 1
                  simp at hrll; omega
                have h2 := run_convert_reads (P := Try.prog) Try.underlying39 Try.underlying5 Try.underlying9 h1 (c - (q + 1))
                rw [show (((x :: l).drop (q + 1)).take y.toNat).length = y.toNat by rw [e1, List.length_take]; simp at hrll; omega] at h2
                have h3 : Reads wr wr.heap.size (cutA (some ad) c (q + 1) (Lies.size UInt8)) (tl.take y.toNat) := by rw [← e1]; exact h1
                rw [e1] at h2
                exact h2
              have hlt2 := hyl
              clear hrl hrll hD hgy hdr hyl hg6
              go_wp2
              have hbb : bl ≠ bR := by omega
              have hnext : RecAt w (wr.setCell ⟨bl, k, none⟩ (.string (mkStr (tl.take y.toNat)))) bR bl (x :: l) (k + 1) (q + (1 + y.toNat)) (setStr k s (mkStr (tl.take y.toNat))) (tl.drop y.toNat) :=
                ⟨decSt_next D.out.st hlt hn.out, by rw [← HDR.out, List.drop_drop]; show _ = ((x :: l).take x.toNat).drop _; congr 1; omega, ⟨by omega, by show _ ≤ x.toNat; omega⟩, D.out.ext.setCell (.inr (by have := HBR.out; show w.heap.size ≤ bl; omega)) _,
                  by rw [heap_setCell_other _ _ _ _ (by show bR ≠ bl; omega)]; exact D.out.res, by rw [heap_setCell_same _ _ _ _ _ _ D.out.arr, arr_set s k hlt]⟩
              have HNX := Lib.hid hnext
              clear hnext
              go_roundw
              case rel => exact ⟨k + 1, q + (1 + y.toNat), _, _, by go_num, by go_num, by omega, HNX.out⟩
              case measure => simp [intOf]; omega
        · obtain rfl : k = 3 := by omega
          clear hD R0 hlt hk
          have hP : parse3 (((x :: l).take x.toNat).drop 5) = if rl = [] then some s else none := decSt_end D.out.st
          cases rl with
          | cons y tl =>
            have HD := Lib.hid (show decode (x :: l) = (Record.zero, 0, 3) from by unfold decode; rw [if_neg (by simpa using HLT.out), if_neg (by simpa using H5.out), show ((x :: l).getD 0 0) = x from rfl, hP]; rfl)
            have hqe : ((q : Int) != x.toNat) = true := bne_iff_ne.2 (by simp at hrll; omega)
            have hb5 := D.out.res
            obtain ⟨hl5, hb5'⟩ := Array.getElem?_eq_some_iff.1 hb5
            clear hP hrl hrll
            go_wp2
            refine ret_rec rfl isRecord bR Record.zero rfl (setRow_heap _ _ _ _ _ _ D.out.res) rfl ⟨?_, D.out.ext.setRow (.inr (Nat.le_of_eq HBR.out)) _⟩
            rw [HD.out]
            rfl
          | nil =>
            have HP := Lib.hid (show parse3 (((x :: l).take x.toNat).drop 5) = some s by rw [hP]; rfl)
            have hqe : ((q : Int) != x.toNat) = false := bne_eq_false_iff_eq.2 (by simp at hrll; omega)
            clear hP hrl hrll
            go_wp2_with fail
            have X1 := Lib.hid D.out.ext
            have SC := Lib.hid (show ∀ w', Ext wr w' → w'.cell? ⟨bl, 0, none⟩ = some (.string s.1) ∧ w'.cell? ⟨bl, 1, none⟩ = some (.string s.2.1) ∧ w'.cell? ⟨bl, 2, none⟩ = some (.string s.2.2) from fun w' hx => by
              have := hx.blk D.out.arr id
              exact ⟨cell_of this 0, cell_of this 1, cell_of this 2⟩)
            have hw1 : IntKind.i64.wrap Y1 = Y1 := IntWalk.i64_in _ (by omega)
            have hw2 : IntKind.i64.wrap Y2 = Y2 := IntWalk.i64_in _ (by omega)
            have hw3 : IntKind.i64.wrap Y3 = Y3 := IntWalk.i64_in _ (by omega)
            have hw4 : IntKind.i64.wrap Y4 = Y4 := IntWalk.i64_in _ (by omega)
            go_region_held3 (fun w' => (w'.cell? ⟨ad.block, ad.off + 1, none⟩ = some (.int .u8 Y1) ∧ w'.cell? ⟨ad.block, ad.off + 2, none⟩ = some (.int .u8 Y2) ∧ w'.cell? ⟨ad.block, ad.off + 3, none⟩ = some (.int .u8 Y3) ∧ w'.cell? ⟨ad.block, ad.off + 4, none⟩ = some (.int .u8 Y4)) ∧
                w'.cell? ⟨bl, 0, none⟩ = some (.string s.1) ∧ w'.cell? ⟨bl, 1, none⟩ = some (.string s.2.1) ∧ w'.cell? ⟨bl, 2, none⟩ = some (.string s.2.2))
              (first | exact ⟨SB.out _ X1.out.drew, SC.out _ (Touch.drew (Touch.refl _ wr))⟩ | exact ⟨SB.out _ (X1.out.drew.alloc _), SC.out _ (Touch.alloc (Touch.drew (Touch.refl _ wr)) _)⟩ | exact ⟨SB.out _ ((X1.out.alloc _).drew), SC.out _ (Touch.drew (Touch.alloc (Touch.refl _ wr) _))⟩) (fail)
            clear hw1 hw2 hw3 hw4
            have hrr : (⟨Y1, Y2, ⟨Y3, s.1, s.2.1, s.2.2⟩, ⟨Y4, noText⟩⟩ : Record) = recOf (x :: l) s := (HY.out s).symm
            have hrb : (wr.alloc (.cells (recOf (x :: l) s).cells 49)).drew.heap[wr.heap.size]? = some (.cells (recOf (x :: l) s).cells 49) := heap_alloc_new _ _
            have X2 := Lib.hid (Touch.drew (Touch.alloc (Touch.refl (fun _ => False) wr) (.cells (recOf (x :: l) s).cells 49)))
            change Exit.then _ _ _ _ (wr.alloc (.cells (⟨Y1, Y2, ⟨Y3, s.1, s.2.1, s.2.2⟩, ⟨Y4, noText⟩⟩ : Record).cells 49)).drew
            rw [hrr]
            generalize (wr.alloc (.cells (recOf (x :: l) s).cells 49)).drew = w2 at hrb X2 ⊢
            generalize wr.heap.size = br at hrb ⊢
            clear hrr
            obtain ⟨hl4, hb4'⟩ := Array.getElem?_eq_some_iff.1 hrb
            go_wp2_with fail
            have hsz := parse3_some (b := ((x :: l).take x.toNat).drop 5) (x := s.1) (y := s.2.1) (z := s.2.2) HP.out
            refine (ref_recfault w2 (recOf (x :: l) s) ⟨by have := hsz.2.1; show s.1.size ≤ _; omega, by have := hsz.2.2.1; show s.2.1.size ≤ _; omega, by have := hsz.2.2.2; show s.2.2.size ≤ _; omega⟩).mono ?_
            rintro e w5 ⟨rfl, hx5⟩
            have X5 := Lib.hid (X2.out.then hx5 fun _ h => h.elim)
            have hb5 := X5.out.blk D.out.res id
            have HB5 := Lib.hid hb5
            obtain ⟨hl5, hb5'⟩ := Array.getElem?_eq_some_iff.1 hb5
            have hb6 := hx5.blk hrb id
            obtain ⟨hl6, hb6'⟩ := Array.getElem?_eq_some_iff.1 hb6
            clear hx5 hsz hrb hl4 hb4'
            by_cases hrc : recCode (recOf (x :: l) s) = 0
            · have HD := Lib.hid (show decode (x :: l) = (recOf (x :: l) s, (x.toNat : Int), 0) from by unfold decode; rw [if_neg (by simpa using HLT.out), if_neg (by simpa using H5.out), show ((x :: l).getD 0 0) = x from rfl, HP.out]; exact if_neg (by simpa using hrc))
              rw [hrc]
              clear hrc
              go_wp2
              refine ret_rec rfl isRecord bR (recOf (x :: l) s) rfl (setRow_heap _ _ _ _ _ _ HB5.out) rfl ⟨?_, (D.out.ext.then X5.out fun _ h => h.elim).setRow (.inr (Nat.le_of_eq HBR.out)) _⟩
              rw [HD.out]
              rfl
            · have HD := Lib.hid (show decode (x :: l) = (Record.zero, 0, recCode (recOf (x :: l) s)) from by unfold decode; rw [if_neg (by simpa using HLT.out), if_neg (by simpa using H5.out), show ((x :: l).getD 0 0) = x from rfl, HP.out]; exact if_pos (by simpa using hrc))
              have hcb : (recCode (recOf (x :: l) s) != 0) = true := bne_iff_ne.2 hrc
              generalize hgc : recCode (recOf (x :: l) s) = code at hcb HD ⊢
              clear hrc hgc
              go_wp2
              refine ret_rec rfl isRecord bR Record.zero rfl (setRow_heap _ _ _ _ _ _ HB5.out) rfl ⟨?_, (D.out.ext.then X5.out fun _ h => h.elim).setRow (.inr (Nat.le_of_eq HBR.out)) _⟩
              rw [HD.out]
              rfl
end Go.Proofs.Ytalfbhhldfffkab
