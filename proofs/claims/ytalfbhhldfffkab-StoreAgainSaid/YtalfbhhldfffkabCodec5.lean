/- Codec5: the walk of codec.Decode. -/
import Derived.Test.YtalfbhhldfffkabCodec4
import Derived.Deep.RegionHeld3
namespace Go.Proofs.Ytalfbhhldfffkab
open Go.RowKit
attribute [local go_sem ↓] sliced_cut

def DecPost (w : World) (l : List UInt8) (e : Ending) (w' : World) : Prop :=
  e = .returned (.tuple #[.agg (decode l).1.cells, .int .i64 (decode l).2.1, .int .i64 (decode l).2.2]) ∧ Ext w w'
/-- the texts that were read so far, and what is left -/
def DecSt (b : List UInt8) : Nat → ByteArray × ByteArray × ByteArray → List UInt8 → Prop
  | 0, s, r => s = (noText, noText, noText) ∧ r = b
  | 1, s, r => ∃ x, parseStr b = some (x, r) ∧ s = (x, noText, noText)
  | 2, s, r => ∃ x y r1, parseStr b = some (x, r1) ∧ parseStr r1 = some (y, r) ∧ s = (x, y, noText)
  | _, s, r => ∃ x y z r1 r2, parseStr b = some (x, r1) ∧ parseStr r1 = some (y, r2) ∧ parseStr r2 = some (z, r) ∧ s = (x, y, z)
theorem decSt_end {b : List UInt8} {s : ByteArray × ByteArray × ByteArray} {r : List UInt8} (h : DecSt b 3 s r) : parse3 b = if r = [] then some s else none := by
  obtain ⟨x, y, z, r1, r2, h1, h2, h3, rfl⟩ := h
  unfold parse3
  rw [h1]; simp only
  rw [h2]; simp only
  rw [h3]
theorem decSt_none {b : List UInt8} {k : Nat} {s : ByteArray × ByteArray × ByteArray} {r : List UInt8} (h : DecSt b k s r) (hk : k < 3) (hn : parseStr r = none) : parse3 b = none := by
  obtain rfl | rfl | rfl : k = 0 ∨ k = 1 ∨ k = 2 := by omega
  · obtain ⟨_, rfl⟩ := h
    unfold parse3; rw [hn]
  · obtain ⟨x, h1, _⟩ := h
    unfold parse3; rw [h1]; simp only; rw [hn]
  · obtain ⟨x, y, r1, h1, h2, _⟩ := h
    unfold parse3; rw [h1]; simp only; rw [h2]; simp only; rw [hn]
/-- the k-th text -/
def setStr (k : Nat) (s : ByteArray × ByteArray × ByteArray) (x : ByteArray) : ByteArray × ByteArray × ByteArray :=
  match k with | 0 => (x, s.2.1, s.2.2) | 1 => (s.1, x, s.2.2) | _ => (s.1, s.2.1, x)
theorem decSt_next {b : List UInt8} {k : Nat} {s : ByteArray × ByteArray × ByteArray} {r r' : List UInt8} {x : ByteArray} (h : DecSt b k s r) (hk : k < 3) (hn : parseStr r = some (x, r')) : DecSt b (k + 1) (setStr k s x) r' := by
  obtain rfl | rfl | rfl : k = 0 ∨ k = 1 ∨ k = 2 := by omega
  · obtain ⟨rfl, rfl⟩ := h
    exact ⟨x, hn, rfl⟩
  · obtain ⟨y, h1, rfl⟩ := h
    exact ⟨y, x, r, h1, hn, rfl⟩
  · obtain ⟨y, z, r1, h1, h2, rfl⟩ := h
    exact ⟨y, z, x, r1, r, h1, h2, hn, rfl⟩
theorem recOf_set (b : List UInt8) (s : ByteArray × ByteArray × ByteArray) (k : Nat) (hk : k < 3) (x : ByteArray) : (recOf b s).cells.setIfInBounds (3 + k) (.string x) = (recOf b (setStr k s x)).cells := by
  obtain rfl | rfl | rfl : k = 0 ∨ k = 1 ∨ k = 2 := by omega
  all_goals rfl

theorem ret_rec {P : Program} {fn : Func} {p t u : Tmp} {ty : TypeId} (h : fn.results = #[.cell p ty, .tmp t, .tmp u]) (ht : IsType P ty Record) {R : Ending → World → Prop} {a : Act} {w : World} (b : Nat) (r : Record) {T : TypeId} {fr : Nat × Nat} (hp : a.tmps.getD p undef = .pointer (some ⟨b, 0, none⟩)) (hb : w.heap[b]? = some (.cells r.cells T fr)) (hd : a.defers = [])
    (hR : R (.returned (.tuple #[.agg r.cells, a.tmps.getD t undef, a.tmps.getD u undef])) w) : bodyPost P fn R (.ret) a w := by
  refine bodyPost_ret (results_cell_tmp2 h _ _ ⟨b, 0, none⟩ (.agg r.cells) hp ?_) hd hR
  exact load_block (x := r) ht hb
structure DecAt (w wr : World) (bR br bp : Nat) (X : List UInt8) (k : Nat) (s : ByteArray × ByteArray × ByteArray) (A : Option Addr) (c : Nat) (rl : List UInt8) : Prop where
  st : DecSt ((X.take (X.getD 0 0).toNat).drop 5) k s rl
  inn : BytesIn w.heap.size wr A rl.length c rl
  len : rl.length ≤ 300
  ext : Ext w wr
  res : wr.heap[bR]? = some (.cells Record.zero.cells 49)
  rec_ : wr.heap[br]? = some (.cells (recOf X s).cells 49)
  ptr : wr.heap[bp]? = some (.cells #[.pointer (some ⟨br, 3, none⟩), .pointer (some ⟨br, 4, none⟩), .pointer (some ⟨br, 5, none⟩)] 163)
def DecRel (w : World) (bR br bp : Nat) (X : List UInt8) (i rest : Value) (wr : World) : Prop :=
  ∃ k s A c rl, i = .int .i64 (k : Nat) ∧ k ≤ 3 ∧ rest = .slice A rl.length c ∧ DecAt w wr bR br bp X k s A c rl
theorem parseStr_len {b r : List UInt8} {x : ByteArray} (h : parseStr b = some (x, r)) : r.length ≤ b.length := by
  rw [(parseStr_some h).1, List.length_append]; omega
theorem DecAt.ext' {w wr w' : World} {bR br bp : Nat} {X : List UInt8} {k : Nat} {s : ByteArray × ByteArray × ByteArray} {A : Option Addr} {c : Nat} {rl : List UInt8} (h : DecAt w wr bR br bp X k s A c rl) (hx : Ext wr w') : DecAt w w' bR br bp X k s A c rl :=
  ⟨h.st, h.inn.ext hx, h.len, h.ext.then hx fun _ h => h.elim, hx.blk h.res id, hx.blk h.rec_ id, hx.blk h.ptr id⟩
/-- a text more -/
theorem DecAt.next {w wr : World} {bR br bp : Nat} {X : List UInt8} {k : Nat} {s : ByteArray × ByteArray × ByteArray} {A A' : Option Addr} {c c' : Nat} {rl r' : List UInt8} {x : ByteArray} (h : DecAt w wr bR br bp X k s A c rl) (hk : k < 3) (hn : parseStr rl = some (x, r'))
    (hi : BytesIn w.heap.size wr A' r'.length c' r') (hb1 : bR ≠ br) (hb2 : bp ≠ br) (hb3 : w.heap.size ≤ br) : DecAt w (wr.setCell ⟨br, 3 + k, none⟩ (.string x)) bR br bp X (k + 1) (setStr k s x) A' c' r' :=
  ⟨decSt_next h.st hk hn, ⟨hi.len, hi.cap, hi.max, fun j y hj => by
    obtain ⟨ad, e, hlt, hat⟩ := hi.reads j y hj
    exact ⟨ad, e, hlt, hat.of_same (heap_setCell_other _ _ _ _ (by rw [show (ad.add (j * Lies.size UInt8)).block = ad.block by unfold Addr.add; split <;> rfl]; show ad.block ≠ br; omega))⟩, by simpa using hi.below⟩, Nat.le_trans (parseStr_len hn) h.len,
    h.ext.setCell (.inr hb3) _, by rw [heap_setCell_other _ _ _ _ hb1]; exact h.res, by rw [heap_setCell_same _ _ _ _ _ _ h.rec_, recOf_set X s k hk], by rw [heap_setCell_other _ _ _ _ hb2]; exact h.ptr⟩

set_option maxHeartbeats 4000000 in
set_option maxRecDepth 100000 in
theorem codec_decode (w : World) (A : Option Addr) (n c : Nat) (l : List UInt8) (h : BytesIn w.heap.size w A n c l) (hl : l.length ≤ 10000) :
    Calls Try.prog 90 #[.slice A n c] w (DecPost w l) := by
  have HB := Lib.hid h
  obtain ⟨rfl, hcap, hmax, hrd, _⟩ := h
  have hm := hmax
  unfold maxLen at hm
  cases l with
  | nil =>
    clear hrd
    go_enter Try.func90, Try.ntmps90
    go_wp2
    refine ret_rec rfl isRecord w.heap.size Record.zero rfl (heap_alloc_new _ _) rfl ⟨rfl, (Touch.refl _ w).alloc _⟩
  | cons x l =>
    obtain ⟨ad, rfl, hadb, hat⟩ := hrd 0 x rfl
    have hlen : (x :: l).length = l.length + 1 := rfl
    have hx1 : (0 : Int) ≤ x.toNat := by omega
    have hx2 : (x.toNat : Int) ≤ 255 := by have := x.toNat_lt; omega
    have HA := Lib.hid hadb
    have HR := Lib.hid hrd
    have hl2 : l.length ≤ 10000 := by simp at hl; omega
    have hcap' : l.length + 1 ≤ c := hcap
    have hz : ((l.length : Int) + 1 == 0) = false := beq_eq_false_iff_ne.2 (by omega)
    have hc0 : (w.alloc (.cells Record.zero.cells 49)).cell? ad = some (.int .u8 (x.toNat : Int)) := hat.of_same (Below.heap_alloc _ _ _ hadb) 0 _ rfl
    rw [hlen]
    clear hrd hat hl hcap hlen hadb
    by_cases hlt : l.length + 1 < x.toNat
    · have hd : decide ((l.length : Int) + 1 < (x.toNat : Int)) = true := decide_eq_true (by omega)
      have HD := Lib.hid (show decode (x :: l) = (Record.zero, 0, 8) from if_pos (.inr (by simpa using hlt)))
      clear hlt
      go_enter Try.func90, Try.ntmps90
      go_wp2
      refine ret_rec rfl isRecord w.heap.size Record.zero rfl (heap_alloc_new _ _) rfl ⟨?_, (Touch.refl _ w).alloc _⟩
      rw [HD.out]
      rfl
    have hd : decide ((l.length : Int) + 1 < (x.toNat : Int)) = false := decide_eq_false (by omega)
    by_cases h5 : x.toNat < 5
    · have h5' : (x.toNat : Int) < 5 := by omega
      have HD := Lib.hid (show decode (x :: l) = (Record.zero, 0, 3) from by unfold decode; rw [if_neg (by simpa using hlt), if_pos (by simpa using h5)])
      clear hlt
      go_enter Try.func90, Try.ntmps90
      go_wp2
      refine ret_rec rfl isRecord w.heap.size Record.zero rfl (heap_alloc_new _ _) rfl ⟨?_, (Touch.refl _ w).alloc _⟩
      rw [HD.out]
      rfl
    · have h5' : ¬ (x.toNat : Int) < 5 := by omega
      have HLT := Lib.hid hlt
      have H5 := Lib.hid h5
      clear hlt h5
      have h5l : 5 ≤ l.length + 1 := by have := HLT.out; have := H5.out; omega
      have SB := Lib.hid (show ∀ w', Ext w w' → w'.cell? ⟨ad.block, ad.off + 1, none⟩ = some (.int .u8 (((x :: l).getD 1 0).toNat : Int)) ∧ w'.cell? ⟨ad.block, ad.off + 2, none⟩ = some (.int .u8 (((x :: l).getD 2 0).toNat : Int)) ∧
          w'.cell? ⟨ad.block, ad.off + 3, none⟩ = some (.int .u8 (((x :: l).getD 3 0).toNat : Int)) ∧ w'.cell? ⟨ad.block, ad.off + 4, none⟩ = some (.int .u8 (((x :: l).getD 4 0).toNat : Int)) from fun w' hx' => by
        have key : ∀ k, k ≠ 0 → k < 5 → w'.cell? ⟨ad.block, ad.off + k, none⟩ = some (.int .u8 (((x :: l).getD k 0).toNat : Int)) := fun k hk0 hk => by
          have e : (x :: l)[k]? = some ((x :: l).getD k 0) := by rw [List.getD_eq_getElem?_getD, List.getElem?_eq_getElem (by simp; omega)]; rfl
          obtain ⟨ad', e1, _, hat⟩ := HR.out k _ e
          cases e1
          have e2 : ad.add (k * Lies.size UInt8) = ⟨ad.block, ad.off + k, none⟩ := by
            rw [show k * Lies.size UInt8 = k from Nat.mul_one k]; unfold Addr.add; rw [if_neg (by simpa using hk0)]
          rw [e2] at hat
          exact hat.of_same (hx'.block _ HA.out id) 0 _ rfl
        exact ⟨key 1 (by decide) (by decide), key 2 (by decide) (by decide), key 3 (by decide) (by decide), key 4 (by decide) (by decide)⟩)
      have y1 : (0 : Int) ≤ ((x :: l).getD 1 0).toNat ∧ (((x :: l).getD 1 0).toNat : Int) ≤ 255 := ⟨by omega, by have := ((x :: l).getD 1 0).toNat_lt; omega⟩
      generalize hY1 : (((x :: l).getD 1 0).toNat : Int) = Y1 at SB y1
      have y2 : (0 : Int) ≤ ((x :: l).getD 2 0).toNat ∧ (((x :: l).getD 2 0).toNat : Int) ≤ 255 := ⟨by omega, by have := ((x :: l).getD 2 0).toNat_lt; omega⟩
      generalize hY2 : (((x :: l).getD 2 0).toNat : Int) = Y2 at SB y2
      have y3 : (0 : Int) ≤ ((x :: l).getD 3 0).toNat ∧ (((x :: l).getD 3 0).toNat : Int) ≤ 255 := ⟨by omega, by have := ((x :: l).getD 3 0).toNat_lt; omega⟩
      generalize hY3 : (((x :: l).getD 3 0).toNat : Int) = Y3 at SB y3
      have y4 : (0 : Int) ≤ ((x :: l).getD 4 0).toNat ∧ (((x :: l).getD 4 0).toNat : Int) ≤ 255 := ⟨by omega, by have := ((x :: l).getD 4 0).toNat_lt; omega⟩
      generalize hY4 : (((x :: l).getD 4 0).toNat : Int) = Y4 at SB y4
      have HY := Lib.hid (show ∀ s, recOf (x :: l) s = ⟨Y1, Y2, ⟨Y3, s.1, s.2.1, s.2.2⟩, ⟨Y4, noText⟩⟩ from fun s => by unfold recOf; rw [hY1, hY2, hY3, hY4])
      clear hY1 hY2 hY3 hY4
      obtain ⟨y1a, y1b⟩ := y1
      obtain ⟨y2a, y2b⟩ := y2
      obtain ⟨y3a, y3b⟩ := y3
      obtain ⟨y4a, y4b⟩ := y4
      go_enter Try.func90, Try.ntmps90
      go_wp2
      change Code.wp Try.prog _ _ _ (w.alloc (.cells Record.zero.cells 49))
      have hzb : (w.alloc (.cells Record.zero.cells 49)).heap[w.heap.size]? = some (.cells Record.zero.cells 49) := heap_alloc_new _ _
      have X1 := Lib.hid (show Ext w (w.alloc (.cells Record.zero.cells 49)) from (Touch.refl _ _).alloc _)
      have hs1 : w.heap.size < (w.alloc (.cells Record.zero.cells 49)).heap.size := by simp
      generalize w.alloc (.cells Record.zero.cells 49) = w1 at hzb X1 hs1 hc0 ⊢
      have HZB := Lib.hid hzb
      clear hzb
      have hw1 : IntKind.i64.wrap Y1 = Y1 := IntWalk.i64_in _ (by omega)
      have hw2 : IntKind.i64.wrap Y2 = Y2 := IntWalk.i64_in _ (by omega)
      have hw4 : IntKind.i64.wrap Y4 = Y4 := IntWalk.i64_in _ (by omega)
      have b1 : (1 : Int) < (l.length : Int) + 1 := by omega
      have b2 : (2 : Int) < (l.length : Int) + 1 := by omega
      have b3 : (3 : Int) < (l.length : Int) + 1 := by omega
      have b4 : (4 : Int) < (l.length : Int) + 1 := by omega
      have d1 : 1 < l.length + 1 := by omega
      have d2 : 2 < l.length + 1 := by omega
      have d3 : 3 < l.length + 1 := by omega
      have d4 : 4 < l.length + 1 := by omega
      go_region_held3 (fun w' => w'.cell? ⟨ad.block, ad.off + 1, none⟩ = some (.int .u8 Y1) ∧ w'.cell? ⟨ad.block, ad.off + 2, none⟩ = some (.int .u8 Y2) ∧ w'.cell? ⟨ad.block, ad.off + 4, none⟩ = some (.int .u8 Y4))
        (first | (obtain ⟨q1, q2, q3, q4⟩ := SB.out _ (X1.out.drew); exact ⟨q1, q2, q4⟩) | (obtain ⟨q1, q2, q3, q4⟩ := SB.out _ (X1.out.drew.alloc _); exact ⟨q1, q2, q4⟩) | (obtain ⟨q1, q2, q3, q4⟩ := SB.out _ ((X1.out.alloc _).drew); exact ⟨q1, q2, q4⟩)) (fail)
      have hrb : (w1.alloc (.cells (⟨Y1, Y2, ⟨0, noText, noText, noText⟩, ⟨Y4, noText⟩⟩ : Record).cells 49)).drew.heap[w1.heap.size]? = some (.cells (⟨Y1, Y2, ⟨0, noText, noText, noText⟩, ⟨Y4, noText⟩⟩ : Record).cells 49) := heap_alloc_new _ _
      have X2 := Lib.hid (show Ext w (w1.alloc (.cells (⟨Y1, Y2, ⟨0, noText, noText, noText⟩, ⟨Y4, noText⟩⟩ : Record).cells 49)).drew from (X1.out.alloc _).drew)
      have hz2 := Lib.hid ((Touch.drew (Touch.alloc (Touch.refl (fun _ => False) w1) (.cells (⟨Y1, Y2, ⟨0, noText, noText, noText⟩, ⟨Y4, noText⟩⟩ : Record).cells 49))).blk HZB.out id)
      have hne : w.heap.size < w1.heap.size := hs1
      change Exit.then _ _ _ _ (w1.alloc (.cells (⟨Y1, Y2, ⟨0, noText, noText, noText⟩, ⟨Y4, noText⟩⟩ : Record).cells 49)).drew
      generalize (w1.alloc (.cells (⟨Y1, Y2, ⟨0, noText, noText, noText⟩, ⟨Y4, noText⟩⟩ : Record).cells 49)).drew = w2 at hrb X2 hz2 ⊢
      generalize w1.heap.size = br at hrb hne ⊢
      clear X1 HZB hc0 hs1 hw1 hw2 hw4
      have hg2 : w2.cell? ⟨br, 2, none⟩ = some (.int .i64 0) := cell_of hrb 2
      have hf2 := frozen_of hrb 2
      obtain ⟨_, _, q3, _⟩ := SB.out _ X2.out
      have hnl : (x.toNat : Int) ≤ l.length + 1 := by have := HLT.out; omega
      have hnc : (x.toNat : Int) ≤ c := by omega
      have hw3 : IntKind.i64.wrap Y3 = Y3 := IntWalk.i64_in _ (by omega)
      go_wp2
      have hr3 : (w2.setCell ⟨br, 2, none⟩ (.int .i64 Y3)).heap[br]? = some (.cells (recOf (x :: l) (noText, noText, noText)).cells 49) := by
        rw [heap_setCell_same w2 br 2 _ _ _ hrb, HY.out]; rfl
      have hlt2 : br < w2.heap.size := (Array.getElem?_eq_some_iff.1 hrb).1
      have X3 := Lib.hid (show Ext w ((w2.setCell ⟨br, 2, none⟩ (.int .i64 Y3)).alloc (.cells #[.pointer (some ⟨br, 3, none⟩), .pointer (some ⟨br, 4, none⟩), .pointer (some ⟨br, 5, none⟩)] 163)) from (X2.out.setCell (.inr (Nat.le_of_lt hne)) _).alloc _)
      have hrl : (((x :: l).take x.toNat).drop 5).length = x.toNat - 5 := by rw [List.length_drop, List.length_take]; simp; omega
      have hD0 : DecAt w ((w2.setCell ⟨br, 2, none⟩ (.int .i64 Y3)).alloc (.cells #[.pointer (some ⟨br, 3, none⟩), .pointer (some ⟨br, 4, none⟩), .pointer (some ⟨br, 5, none⟩)] 163)) w.heap.size br w2.heap.size (x :: l) 0 (noText, noText, noText) (cutA (some ad) c 5 1) (c - 5) (((x :: l).take x.toNat).drop 5) := by
        refine ⟨⟨rfl, rfl⟩, ⟨rfl, by rw [hrl]; omega, by unfold maxLen; omega, ?_, X3.out.size⟩, by rw [hrl]; omega, X3.out, ?_, ?_, ?_⟩
        · have h1 := ((HR.out.cutA (m := c) (by simp; omega) 5).take (x.toNat - 5)).below fun k hk => X3.out.block k hk id
          rw [← List.drop_take] at h1
          exact h1
        · rw [heap_alloc_past _ _ _ (by simp; omega), heap_setCell_other _ _ _ _ (by simp; omega)]; exact hz2.out
        · rw [heap_alloc_past _ _ _ (by simp; omega)]; exact hr3
        · exact heap_alloc_at _ _ _ (by simp)
      have D0 := Lib.hid hD0
      have hrl' := Lib.hid hrl
      clear hD0 hrl hr3 hrb hg2 hf2 q3 hw3
      have hbp : br < w2.heap.size := hlt2
      clear hlt2
      generalize (w2.setCell ⟨br, 2, none⟩ (.int .i64 Y3)).alloc (.cells #[.pointer (some ⟨br, 3, none⟩), .pointer (some ⟨br, 4, none⟩), .pointer (some ⟨br, 5, none⟩)] 163) = w3 at D0 X3 ⊢
      generalize w2.heap.size = bp at D0 hbp ⊢
      generalize hbR : w.heap.size = bR at D0 hne ⊢
      have HBR := Lib.hid hbR
      clear hbR
      go_loopw [7, 65] (fun rest i wr => DecRel w bR br bp (x :: l) i rest wr) (fun _ i _ => 3 - (intOf i).toNat)
      case atStart => exact ⟨0, _, _, _, _, rfl, by omega, by rw [hrl'.out], D0.out⟩
      case round =>
        obtain ⟨k, s, A, cc, rl, rfl, hk, rfl, hD⟩ := hrel
        have D := Lib.hid hD
        by_cases hlt : k < 3
        · have hki : (k : Int) < 3 := by omega
          have hpt : wr.cell? ⟨bp, k, none⟩ = some (.pointer (some ⟨br, 3 + k, none⟩)) := by
            rw [cell_of hD.ptr]
            obtain rfl | rfl | rfl : k = 0 ∨ k = 1 ∨ k = 2 := by omega
            all_goals rfl
          clear hD D0
          go_wp2_with fail
          refine (codec_text w.heap.size wr A rl.length cc rl D.out.inn (by have := D.out.len; omega)).mono ?_
          rintro e w5 (⟨hn, rfl, hx5⟩ | ⟨y, r', hn, A', c', rfl, hi', hx5⟩)
          · have D5 := Lib.hid (D.out.ext' hx5)
            have hb5 := D5.out.res
            obtain ⟨hl5, hb5'⟩ := Array.getElem?_eq_some_iff.1 hb5
            have HD := Lib.hid (show decode (x :: l) = (Record.zero, 0, 3) from by unfold decode; rw [if_neg (by simpa using HLT.out), if_neg (by simpa using H5.out), show ((x :: l).getD 0 0) = x from rfl, decSt_none (b := ((x :: l).take x.toNat).drop 5) D.out.st hlt hn])
            clear hn hx5 D
            go_wp2
            refine ret_rec rfl isRecord bR Record.zero rfl (setRow_heap _ _ _ _ _ _ D5.out.res) rfl ⟨?_, D5.out.ext.setRow (.inr (Nat.le_of_eq HBR.out)) _⟩
            rw [HD.out]
            rfl
          · have D5 := D.out.ext' hx5
            have hk3 : wr.heap.size ≤ w5.heap.size := hx5.size
            have hg5 : w5.cell? ⟨br, 3 + k, none⟩ = (recOf (x :: l) s).cells[3 + k]? := cell_of D5.rec_ _
            have hg6 : ∃ v, (recOf (x :: l) s).cells[3 + k]? = some v := ⟨_, Array.getElem?_eq_getElem (by simp; omega)⟩
            obtain ⟨v6, hg6⟩ := hg6
            rw [hg6] at hg5
            have hf5 := frozen_of D5.rec_ (3 + k)
            have D6 := Lib.hid (D5.next hlt hn hi' (by omega) (by omega) (by have := HBR.out; omega))
            clear hg6 D5 D hn hi' hx5
            go_wp2
            go_roundw
            case rel => exact ⟨k + 1, _, _, _, _, by go_num, by omega, rfl, D6.out⟩
            case measure => simp [intOf]; omega
        · obtain rfl : k = 3 := by omega
          clear hD D0 hlt hk
          have hP : parse3 (((x :: l).take x.toNat).drop 5) = if rl = [] then some s else none := decSt_end D.out.st
          cases rl with
          | cons y rl =>
            have HD := Lib.hid (show decode (x :: l) = (Record.zero, 0, 3) from by unfold decode; rw [if_neg (by simpa using HLT.out), if_neg (by simpa using H5.out), show ((x :: l).getD 0 0) = x from rfl, hP]; rfl)
            have hll : (y :: rl).length = rl.length + 1 := rfl
            have hp1 : (0 : Int) < (rl.length : Int) + 1 := by omega
            have hb5 := D.out.res
            obtain ⟨hl5, hb5'⟩ := Array.getElem?_eq_some_iff.1 hb5
            clear hP
            go_wp2
            refine ret_rec rfl isRecord bR Record.zero rfl (setRow_heap _ _ _ _ _ _ D.out.res) rfl ⟨?_, D.out.ext.setRow (.inr (Nat.le_of_eq HBR.out)) _⟩
            rw [HD.out]
            rfl
          | nil =>
            have HP := Lib.hid (show parse3 (((x :: l).take x.toNat).drop 5) = some s by rw [hP]; rfl)
            clear hP
            have hb4 := D.out.rec_
            obtain ⟨hl4, hb4'⟩ := Array.getElem?_eq_some_iff.1 hb4
            go_wp2_with fail
            have hsz := parse3_some (b := ((x :: l).take x.toNat).drop 5) (x := s.1) (y := s.2.1) (z := s.2.2) HP.out
            refine (codec_check wr (recOf (x :: l) s) ⟨by have := hsz.2.1; show s.1.size ≤ _; omega, by have := hsz.2.2.1; show s.2.1.size ≤ _; omega, by have := hsz.2.2.2; show s.2.2.size ≤ _; omega⟩).mono ?_
            rintro e w5 ⟨rfl, hx5⟩
            have D5 := Lib.hid (D.out.ext' hx5)
            have hb5 := D5.out.res
            obtain ⟨hl5, hb5'⟩ := Array.getElem?_eq_some_iff.1 hb5
            have hb6 := D5.out.rec_
            obtain ⟨hl6, hb6'⟩ := Array.getElem?_eq_some_iff.1 hb6
            clear hx5 hsz hb4 hl4 hb4'
            by_cases hrc : recCode (recOf (x :: l) s) = 0
            · have HD := Lib.hid (show decode (x :: l) = (recOf (x :: l) s, (x.toNat : Int), 0) from by unfold decode; rw [if_neg (by simpa using HLT.out), if_neg (by simpa using H5.out), show ((x :: l).getD 0 0) = x from rfl, HP.out]; exact if_neg (by simpa using hrc))
              rw [hrc]
              clear hrc
              go_wp2
              refine ret_rec rfl isRecord bR (recOf (x :: l) s) rfl (setRow_heap _ _ _ _ _ _ D5.out.res) rfl ⟨?_, D5.out.ext.setRow (.inr (Nat.le_of_eq HBR.out)) _⟩
              rw [HD.out]
              rfl
            · have HD := Lib.hid (show decode (x :: l) = (Record.zero, 0, recCode (recOf (x :: l) s)) from by unfold decode; rw [if_neg (by simpa using HLT.out), if_neg (by simpa using H5.out), show ((x :: l).getD 0 0) = x from rfl, HP.out]; exact if_pos (by simpa using hrc))
              have hcb : (recCode (recOf (x :: l) s) != 0) = true := bne_iff_ne.2 hrc
              generalize hgc : recCode (recOf (x :: l) s) = code at hcb HD ⊢
              clear hrc hgc
              go_wp2
              refine ret_rec rfl isRecord bR Record.zero rfl (setRow_heap _ _ _ _ _ _ D5.out.res) rfl ⟨?_, D5.out.ext.setRow (.inr (Nat.le_of_eq HBR.out)) _⟩
              rw [HD.out]
              rfl
end Go.Proofs.Ytalfbhhldfffkab
