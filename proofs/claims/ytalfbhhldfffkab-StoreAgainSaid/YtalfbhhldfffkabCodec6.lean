/- Codec6: the walks of codec.All and the reference's RecordsOf. -/
import Derived.Test.YtalfbhhldfffkabCodec7
namespace Go.Proofs.Ytalfbhhldfffkab
open Go.RowKit
attribute [local go_sem ↓] sliced_cut

structure AllAt (w wr : World) (l : List UInt8) (at_ : Nat) (done : List Record) (rest : List UInt8) (v : Value) : Prop where
  cut : l = logBytes done ++ rest
  at_ : at_ = (logBytes done).length
  each : ∀ r ∈ done, RecOk r
  own : Owns wr 49 v done
  new : ∀ j, v.ownBlock = some j → w.heap.size ≤ j
  ext : Ext w wr
def AllRel (w : World) (l : List UInt8) (v i : Value) (wr : World) : Prop := ∃ (k : Nat) (done : List Record) (rest : List UInt8), i = .int .i64 k ∧ AllAt w wr l k done rest v
theorem log_len {l : List Record} (h : ∀ r ∈ l, RecOk r) : l.length * 8 ≤ (logBytes l).length := by
  induction l with
  | nil => simp [logBytes]
  | cons r l ih =>
    have h1 := ih fun x hx => h x (List.mem_cons_of_mem _ hx)
    have h2 := (recBytes_bounds (h r List.mem_cons_self)).1
    rw [logBytes_cons, List.length_append, List.length_cons]
    omega
def AllPost (w : World) (l : List UInt8) (e : Ending) (w' : World) : Prop := NewListC w 49 (recAll l) ((logBytes (recAll l)).length : Int) e w'
set_option maxHeartbeats 4000000 in
set_option maxRecDepth 100000 in
theorem codec_all (w : World) (A : Option Addr) (n c : Nat) (l : List UInt8) (h : BytesIn w.heap.size w A n c l) (hl : l.length ≤ 10000) :
    Calls Try.prog 58 #[.slice A n c] w (AllPost w l) := by
  have HB := Lib.hid h
  obtain ⟨rfl, hcap, hmax, hrd, _⟩ := h
  have hm := hmax
  unfold maxLen at hm
  clear hrd
  go_enter Try.func58, Try.ntmps58
  go_wp2
  go_loopw [4, 5] (fun v i wr => AllRel w l v i wr) (fun _ i _ => l.length - (intOf i).toNat)
  case atStart => exact ⟨0, [], l, rfl, by simp [logBytes], by simp [logBytes], fun r h => by simp at h, Owns.nil _ _, fun j hj => by simp [Value.ownBlock] at hj, Touch.refl _ _⟩
  case round =>
    obtain ⟨k, done, rest, rfl, hA⟩ := hrel
    have HA := Lib.hid hA
    obtain ⟨A0, c0, rfl, hc0, hcm0, _⟩ := hA.own.form
    have hkl : l.length = k + rest.length := by rw [hA.cut, hA.at_, List.length_append]
    have hdl : done.length * 8 ≤ k := by rw [hA.at_]; exact log_len hA.each
    have hk1 : (k : Int) ≤ l.length := by omega
    have hk2 : (k : Int) ≤ c := by omega
    have HKL := Lib.hid hkl
    have hbi : BytesIn wr.heap.size wr (cutA A c k 1) (l.length - k) (c - k) rest := by
      have hrl : rest = l.drop k := by rw [hA.cut, hA.at_, List.drop_left]
      refine ⟨by omega, by omega, by unfold maxLen; omega, ?_, Nat.le_refl _⟩
      rw [hrl]
      exact (HB.out.reads.ext hA.ext).cutA HB.out.cap k
    have HBI := Lib.hid hbi
    have hr10 : rest.length ≤ 10000 := by omega
    clear hA hcm0 hkl hbi
    go_wp2_with fail
    refine (codec_decode wr _ _ _ rest HBI.out hr10).mono ?_
    rintro e w5 ⟨rfl, hx5⟩
    have X5 := Lib.hid hx5
    have HO5 := Lib.hid (HA.out.own.ext hx5)
    clear hx5
    by_cases hcd : (decode rest).2.2 = 0
    · obtain ⟨hok, r', hr', hn'⟩ := decode_zero hcd
      have HOK := Lib.hid hok
      have hbd := recBytes_bounds hok
      have hlr : rest.length = (recBytes (decode rest).1).length + r'.length := by rw [← List.length_append, ← hr']
      have HR := Lib.hid hr'
      have hn0 : (decode rest).2.1 = ((recBytes (decode rest).1).length : Int) := hn'
      rw [hcd, hn0]
      generalize (decode rest).1 = rc at HOK HR hbd hlr ⊢
      clear hcd hok hr' hn' hn0
      obtain ⟨hb1, hb2⟩ := hbd
      have hkl2 : l.length = k + ((recBytes rc).length + r'.length) := by rw [HKL.out, hlr]
      have hkn : k + (recBytes rc).length ≤ l.length := by omega
      clear hlr hkl2
      generalize hrn : (recBytes rc).length = rn at hb1 hb2 hkn ⊢
      have HRN := Lib.hid hrn
      clear hrn
      go_wp2_with (at_builtin; refine wpList_append_own' (by rfl) (.tmp 21) (.tmp 23) 44 (by rfl) elemRecord Try.underlying44 (v := .slice A0 done.length c0) (l := done) (by rfl) (HO5.out.ext (((Touch.refl (fun _ => False) w5).alloc (.cells rc.cells 49)).alloc (.cells rc.cells 49))) [rc] (by rfl) (done.length + 1) (by rfl) (by rfl) (reads_block (x := rc) (t := 49) (fr := (0, 0)) (heap_alloc_at _ _ _ (by simp)) (w5.heap.size + 2) (by simp)) (by simp; omega) ?_
                   intro A1 c1 w1 hown1 hgrow1 hat1
                   have HO1 := Lib.hid hown1
                   have HG1 := Lib.hid hgrow1
                   have HA1 := Lib.hid hat1
                   clear hown1 hgrow1 hat1)
      have hx6 : Ext w ((w5.alloc (.cells rc.cells 49)).alloc (.cells rc.cells 49)) := ((HA.out.ext.then X5.out fun _ h => h.elim).alloc _).alloc _
      have hfin : AllAt w w1 l (k + rn) (done ++ [rc]) r' (.slice A1 (done.length + 1) c1) := by
        have hsz := hx6.size
        refine ⟨?_, ?_, ?_, HO1.out, fun j hj => ?_, hx6.grown HG1.out fun j hj => .inr (HA.out.new j hj)⟩
        · rw [logBytes_append, logBytes_one, List.append_assoc, ← HR.out]; exact HA.out.cut
        · rw [logBytes_append, logBytes_one, List.length_append, HRN.out, ← HA.out.at_]
        · intro r hr
          rcases List.mem_append.1 hr with hr | hr
          · exact HA.out.each r hr
          · rw [List.mem_singleton.1 hr]; exact HOK.out
        · rcases HA1.out with e | e
          · exact HA.out.new j (by rw [← e]; exact hj)
          · rw [e] at hj; injection hj with hj; omega
      have HFIN := Lib.hid hfin
      clear hx6 hfin
      go_roundw
      case rel => exact ⟨k + rn, _, _, by go_num, HFIN.out⟩
      case measure => simp [intOf]; omega
    · have hcb : ((decode rest).2.2 != 0) = true := bne_iff_ne.2 hcd
      have HALL := Lib.hid (show recAll l = done from recAll_of ⟨HA.out.each, rest, HA.out.cut, hcd⟩)
      generalize (decode rest).2.2 = code at hcb ⊢
      clear hcd
      go_wp2
      go_ret2
      refine ⟨A0, c0, ?_, ?_, (HA.out.ext.then X5.out fun _ h => h.elim).alloc _, ?_⟩
      · rw [HALL.out, ← HA.out.at_]; rfl
      · rw [HALL.out]; exact HO5.out.ext ((Touch.refl _ _).alloc _)
      · rw [HALL.out]; exact HA.out.new
set_option maxHeartbeats 4000000 in
set_option maxRecDepth 100000 in
theorem ref_recordsOf (w : World) (A : Option Addr) (n c : Nat) (l : List UInt8) (h : BytesIn w.heap.size w A n c l) (hl : l.length ≤ 10000) :
    Calls Try.prog 22 #[.slice A n c] w (AllPost w l) := by
  have HB := Lib.hid h
  obtain ⟨rfl, hcap, hmax, hrd, _⟩ := h
  have hm := hmax
  unfold maxLen at hm
  clear hrd
  go_enter Try.func22, Try.ntmps22
  go_wp2
  go_loopw [4, 5] (fun v i wr => AllRel w l v i wr) (fun _ i _ => l.length - (intOf i).toNat)
  case atStart => exact ⟨0, [], l, rfl, by simp [logBytes], by simp [logBytes], fun r h => by simp at h, Owns.nil _ _, fun j hj => by simp [Value.ownBlock] at hj, Touch.refl _ _⟩
  case round =>
    obtain ⟨k, done, rest, rfl, hA⟩ := hrel
    have HA := Lib.hid hA
    obtain ⟨A0, c0, rfl, hc0, hcm0, _⟩ := hA.own.form
    have hkl : l.length = k + rest.length := by rw [hA.cut, hA.at_, List.length_append]
    have hdl : done.length * 8 ≤ k := by rw [hA.at_]; exact log_len hA.each
    have hk1 : (k : Int) ≤ l.length := by omega
    have hk2 : (k : Int) ≤ c := by omega
    have HKL := Lib.hid hkl
    have hbi : BytesIn wr.heap.size wr (cutA A c k 1) (l.length - k) (c - k) rest := by
      have hrl : rest = l.drop k := by rw [hA.cut, hA.at_, List.drop_left]
      refine ⟨by omega, by omega, by unfold maxLen; omega, ?_, Nat.le_refl _⟩
      rw [hrl]
      exact (HB.out.reads.ext hA.ext).cutA HB.out.cap k
    have HBI := Lib.hid hbi
    have hr10 : rest.length ≤ 10000 := by omega
    clear hA hcm0 hkl hbi
    go_wp2_with fail
    refine (ref_recordOf wr _ _ _ rest HBI.out hr10).mono ?_
    rintro e w5 ⟨rfl, hx5⟩
    have X5 := Lib.hid hx5
    have HO5 := Lib.hid (HA.out.own.ext hx5)
    clear hx5
    by_cases hcd : (decode rest).2.2 = 0
    · obtain ⟨hok, r', hr', hn'⟩ := decode_zero hcd
      have HOK := Lib.hid hok
      have hbd := recBytes_bounds hok
      have hlr : rest.length = (recBytes (decode rest).1).length + r'.length := by rw [← List.length_append, ← hr']
      have HR := Lib.hid hr'
      have hn0 : (decode rest).2.1 = ((recBytes (decode rest).1).length : Int) := hn'
      rw [hcd, hn0]
      generalize (decode rest).1 = rc at HOK HR hbd hlr ⊢
      clear hcd hok hr' hn' hn0
      obtain ⟨hb1, hb2⟩ := hbd
      have hkl2 : l.length = k + ((recBytes rc).length + r'.length) := by rw [HKL.out, hlr]
      have hkn : k + (recBytes rc).length ≤ l.length := by omega
      clear hlr hkl2
      generalize hrn : (recBytes rc).length = rn at hb1 hb2 hkn ⊢
      have HRN := Lib.hid hrn
      clear hrn
      go_wp2_with (at_builtin; refine wpList_append_own' (by rfl) (.tmp 21) (.tmp 23) 44 (by rfl) elemRecord Try.underlying44 (v := .slice A0 done.length c0) (l := done) (by rfl) (HO5.out.ext (((Touch.refl (fun _ => False) w5).alloc (.cells rc.cells 49)).alloc (.cells rc.cells 49))) [rc] (by rfl) (done.length + 1) (by rfl) (by rfl) (reads_block (x := rc) (t := 49) (fr := (0, 0)) (heap_alloc_at _ _ _ (by simp)) (w5.heap.size + 2) (by simp)) (by simp; omega) ?_
                   intro A1 c1 w1 hown1 hgrow1 hat1
                   have HO1 := Lib.hid hown1
                   have HG1 := Lib.hid hgrow1
                   have HA1 := Lib.hid hat1
                   clear hown1 hgrow1 hat1)
      have hx6 : Ext w ((w5.alloc (.cells rc.cells 49)).alloc (.cells rc.cells 49)) := ((HA.out.ext.then X5.out fun _ h => h.elim).alloc _).alloc _
      have hfin : AllAt w w1 l (k + rn) (done ++ [rc]) r' (.slice A1 (done.length + 1) c1) := by
        have hsz := hx6.size
        refine ⟨?_, ?_, ?_, HO1.out, fun j hj => ?_, hx6.grown HG1.out fun j hj => .inr (HA.out.new j hj)⟩
        · rw [logBytes_append, logBytes_one, List.append_assoc, ← HR.out]; exact HA.out.cut
        · rw [logBytes_append, logBytes_one, List.length_append, HRN.out, ← HA.out.at_]
        · intro r hr
          rcases List.mem_append.1 hr with hr | hr
          · exact HA.out.each r hr
          · rw [List.mem_singleton.1 hr]; exact HOK.out
        · rcases HA1.out with e | e
          · exact HA.out.new j (by rw [← e]; exact hj)
          · rw [e] at hj; injection hj with hj; omega
      have HFIN := Lib.hid hfin
      clear hx6 hfin
      go_roundw
      case rel => exact ⟨k + rn, _, _, by go_num, HFIN.out⟩
      case measure => simp [intOf]; omega
    · have hcb : ((decode rest).2.2 != 0) = true := bne_iff_ne.2 hcd
      have HALL := Lib.hid (show recAll l = done from recAll_of ⟨HA.out.each, rest, HA.out.cut, hcd⟩)
      generalize (decode rest).2.2 = code at hcb ⊢
      clear hcd
      go_wp2
      go_ret2
      refine ⟨A0, c0, ?_, ?_, (HA.out.ext.then X5.out fun _ h => h.elim).alloc _, ?_⟩
      · rw [HALL.out, ← HA.out.at_]; rfl
      · rw [HALL.out]; exact HO5.out.ext ((Touch.refl _ _).alloc _)
      · rw [HALL.out]; exact HA.out.new
end Go.Proofs.Ytalfbhhldfffkab
