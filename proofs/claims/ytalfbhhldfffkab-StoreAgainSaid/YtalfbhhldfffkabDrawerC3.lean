/- DrawerC3: the reference's Drawer: Do, the ways that change nothing. -/
import Derived.Test.YtalfbhhldfffkabDrawerC2
import Derived.Test.YtalfbhhldfffkabCallsR
namespace Go.Proofs.Ytalfbhhldfffkab
open Go.RowKit

structure DOk (d : List FileD) : Prop where
  len : d.length ≤ 6
  each : ∀ f ∈ d, f.name.size ≤ 5 ∧ f.text.size ≤ 16
theorem Srt.dok {l d : List FileD} (h : Srt l d) (hl : FOk l) : DOk d :=
  ⟨by rw [← h.2.length_eq]; exact hl.len, fun f hf => by
    have h1 := hl.each f (h.2.mem_iff.2 hf)
    exact ⟨okText_le h1.1, h1.2⟩⟩
theorem drawer_at_some (w : World) (B : Nat) (A : Option Addr) (c : Nat) (d : List FileD) (s : ByteArray) (i : Nat) (hr : Reads w B A d) (hl : d.length ≤ 1000) (hd : dAt d s = some i) :
    Calls Try.prog 93 #[.slice A d.length c, .string s] w fun e w' => e = .returned (.int .i64 (i : Int)) ∧ w' = w := by
  refine (drawer_at w B A c d s hr hl).mono fun e w' ⟨he, hw⟩ => ⟨?_, hw⟩
  rw [he]; unfold atInt; rw [hd]
theorem drawer_at_none (w : World) (B : Nat) (A : Option Addr) (c : Nat) (d : List FileD) (s : ByteArray) (hr : Reads w B A d) (hl : d.length ≤ 1000) (hd : dAt d s = none) :
    Calls Try.prog 93 #[.slice A d.length c, .string s] w fun e w' => e = .returned (.int .i64 (-1)) ∧ w' = w := by
  refine (drawer_at w B A c d s hr hl).mono fun e w' ⟨he, hw⟩ => ⟨?_, hw⟩
  rw [he]; unfold atInt; rw [hd]
def DDPost (w : World) (g : Nat) (F : Nat → Prop) (d : List FileD) (x : Call) (e : Ending) (w' : World) : Prop :=
  e = .returned (.agg (ddo d x).1.cells) ∧ Moved (repHolds g 118 120) w F (ddo d x).2 w'
theorem noText_append (s : ByteArray) : noText ++ s = s := by
  apply toList_inj
  rw [ByteArray.toList_eq, ByteArray.toList_eq]
  simp [noText]
theorem joinSp_snoc (l : List ByteArray) (hl : l ≠ []) (x : ByteArray) : joinSp (l ++ [x]) = joinSp l ++ ⟨#[32]⟩ ++ x := by
  cases l with
  | nil => exact (hl rfl).elim
  | cons y l => simp [joinSp]
theorem joinSp_take_zero {l : List ByteArray} {x : ByteArray} (h : l[0]? = some x) : joinSp (l.take 1) = x := by
  cases l with
  | nil => simp at h
  | cons y l => simp at h; subst h; rfl
theorem joinSp_take_succ {l : List ByteArray} {k : Nat} {x : ByteArray} (h : l[k]? = some x) (hk : 0 < k) : joinSp (l.take (k + 1)) = joinSp (l.take k) ++ ⟨#[32]⟩ ++ x := by
  rw [List.take_add_one, h]
  refine joinSp_snoc _ (fun e => ?_) x
  have hlt := (List.getElem?_eq_some_iff.1 h).1
  have := congrArg List.length e
  rw [List.length_take, List.length_nil] at this
  omega
theorem size_joinSp {l : List ByteArray} {m : Nat} (h : ∀ s ∈ l, s.size ≤ m) : (joinSp l).size ≤ l.length * (m + 1) := by
  have key : ∀ (r : List ByteArray) (a : ByteArray), (∀ s ∈ r, s.size ≤ m) → (r.foldl (fun s y => s ++ (⟨#[32]⟩ : ByteArray) ++ y) a).size ≤ a.size + r.length * (m + 1) := by
    intro r
    induction r with
    | nil => intro a _; simp
    | cons y r ih =>
      intro a hr
      have h1 := ih (a ++ (⟨#[32]⟩ : ByteArray) ++ y) (fun s hs => hr s (by simp [hs]))
      have h2 := hr y (by simp)
      have h3 : (a ++ (⟨#[32]⟩ : ByteArray) ++ y).size = a.size + 1 + y.size := by simp [ByteArray.size_append]; rfl
      rw [List.foldl_cons, List.length_cons, Nat.add_mul]
      omega
  cases l with
  | nil => simp [joinSp, noText, ByteArray.size]
  | cons x l =>
    have h1 := key l x (fun s hs => h s (by simp [hs]))
    have h2 := h x (by simp)
    show (l.foldl _ x).size ≤ _
    rw [List.length_cons, Nat.add_mul]
    omega
theorem dNames_mem {d : List FileD} {s : ByteArray} (h : s ∈ dNames d) : ∃ f ∈ d, f.name = s := by
  have := (foldl_names d [] List.Pairwise.nil).2.mem_iff.1 h
  simpa using this


set_option maxHeartbeats 1000000 in
set_option maxRecDepth 100000 in
theorem drawer_do_fault (w : World) (g : Nat) (F : Nat → Prop) (d : List FileD) (x : Call) (n : Int) (h : (repHolds g 118 120).on w F d) (hok : DOk d) (hst : StrCall x) (hn : callCode x = n) (h0 : n ≠ 0) :
    Calls Try.prog 61 #[.pointer (some ⟨g, 0, none⟩), .agg x.cells] w (DDPost w g F d x) := by
  have HD := Lib.hid (show ddo d x = (ans n, d) from by unfold ddo; rw [hn, if_pos h0])
  have HR := Lib.hid h
  obtain ⟨v, hF, hh⟩ := h
  obtain ⟨A, c, rfl, hc, hcm, hr⟩ := hh.own.form
  have hlt := hh.lt
  have H := Lib.hid hh
  have HOK := Lib.hid hok
  have HF := Lib.hid hF
  have hl6 := hok.len
  have hg1 : (w.heap.size = g) = False := by simp; omega
  have hg2 : (w.heap.size + 1 = g) = False := by simp; omega
  have HC0 := Lib.hid hn
  have HST := Lib.hid hst
  clear hr hok hh hF hst
  have hn1 : (n == 0) = false := beq_eq_false_iff_ne.2 h0
  have hn2 : (n != 0) = true := by simp [h0]
  clear hn h0
  go_enter Try.func61, Try.ntmps61
  go_wp2_with (first
    |
      (go_at_call 92
       refine (ref_fault' _ x _ HC0.out HST.out).mono ?_
       rintro e w1 ⟨rfl, hx1⟩
       have hbx1 := hx1.blk (b := w.heap.size) (o := .cells x.cells 31 (0, 0)) (by simp only [heap_alloc_past, heap_alloc_at, World.size_alloc, Nat.lt_add_one]) id
       have hbr1 := hx1.blk (b := w.heap.size + 1) (o := .cells Answer.zero.cells 28 (0, 0)) (by simp only [heap_alloc_at, World.size_alloc]) id
       have ht1 := (((Touch.refl (fun _ => False) w).alloc (.cells x.cells 31)).alloc (.cells Answer.zero.cells 28)).trans hx1
       have hbg1 := ht1.blk H.out.cell id
       have hc10 := cell_of hbx1 0
       have hc11 := cell_of hbx1 1
       have hc12 := cell_of hbx1 2
       have hc13 := cell_of hbx1 3
       have hcg1 := cell_of hbg1 0
       have hlb1 : w.heap.size + 2 ≤ w1.heap.size := by have := hx1.size; simpa using this
       have HE1 := Lib.hid (show Ext w w1 from ht1)
       have HBG1 := Lib.hid hbg1
       have HRD := Lib.hid (Reads.ext H.out.reads ht1)
       clear hx1 ht1)
    )
  refine ret_cell rfl isAnswer (w.heap.size + 1) (ans n) rfl (setRow_heap _ _ _ _ _ _ hbr1) rfl ?_
  unfold DDPost
  rw [HD.out]
  exact ⟨rfl, Rep.moved HR.out (HE1.out.setRow (.inr (by omega)) _)⟩

theorem ddo_list {d : List FileD} {x : Call} (h0 : callCode x = 0) (h6 : x.kind = 6) : ddo d x = (⟨0, joinSp (dNames d)⟩, d) := by
  unfold ddo; rw [if_neg (by simp [h0]), if_pos h6]
theorem ddo_make {d : List FileD} {x : Call} (h0 : callCode x = 0) (h1 : x.kind = 1) : ddo d x = (match dAt d x.name with | some _ => (ans 5, d) | none => if 6 ≤ d.length then (ans 7, d) else (ans 0, d ++ [⟨x.name, noText⟩])) := by
  unfold ddo; rw [if_neg (by simp [h0]), if_neg (by omega), if_pos h1]; cases dAt d x.name <;> rfl
theorem ddo_lost {d : List FileD} {x : Call} (h0 : callCode x = 0) (h6 : x.kind ≠ 6) (h1 : x.kind ≠ 1) (hd : dAt d x.name = none) : ddo d x = (ans 6, d) := by
  unfold ddo; rw [if_neg (by simp [h0]), if_neg h6, if_neg h1, hd]
theorem ddo_found {d : List FileD} {x : Call} (h0 : callCode x = 0) (h6 : x.kind ≠ 6) (h1 : x.kind ≠ 1) {i : Nat} {f : FileD} (hd : dAt d x.name = some i) (hf : d[i]? = some f) :
    ddo d x = (if x.kind = 5 then (⟨0, f.text⟩, d)
        else if x.kind = 4 then (if 16 < f.text.size + x.text.size then (ans 7, d) else (ans 0, d.set i ⟨f.name, f.text ++ x.text⟩))
        else if x.kind = 3 then (match dAt d x.to_ with
          | some _ => (ans 5, d)
          | none => (ans 0, d.set i ⟨x.to_, f.text⟩))
        else (ans 0, d.eraseIdx i)) := by
  unfold ddo; rw [if_neg (by simp [h0]), if_neg h6, if_neg h1, hd]
  simp only [hf]
  cases dAt d x.to_ <;> rfl

set_option maxHeartbeats 1000000 in
set_option maxRecDepth 100000 in
theorem drawer_do_list (w : World) (g : Nat) (F : Nat → Prop) (d : List FileD) (x : Call) (h : (repHolds g 118 120).on w F d) (hok : DOk d) (hst : StrCall x) (hn : callCode x = 0) (h6 : x.kind = 6) :
    Calls Try.prog 61 #[.pointer (some ⟨g, 0, none⟩), .agg x.cells] w (DDPost w g F d x) := by
  have HD := Lib.hid (ddo_list (d := d) hn h6)
  have HR := Lib.hid h
  obtain ⟨v, hF, hh⟩ := h
  obtain ⟨A, c, rfl, hc, hcm, hr⟩ := hh.own.form
  have hlt := hh.lt
  have H := Lib.hid hh
  have HOK := Lib.hid hok
  have HF := Lib.hid hF
  have hl6 := hok.len
  have hg1 : (w.heap.size = g) = False := by simp; omega
  have hg2 : (w.heap.size + 1 = g) = False := by simp; omega
  have HC0 := Lib.hid hn
  have HST := Lib.hid hst
  clear hr hok hh hF hst
  have hk6 : (x.kind == 6) = true := by rw [h6]; rfl
  have hsz : ∀ s ∈ dNames d, s.size ≤ 5 := fun s hs => by
    obtain ⟨f, hf, rfl⟩ := dNames_mem hs
    exact (HOK.out.each f hf).1
  have hlen : (dNames d).length ≤ 6 := by
    have := length_dNamesUpto d d.length (Nat.le_refl _); unfold dNamesUpto at this; rw [List.take_length] at this; omega
  have HSZ := Lib.hid hsz
  clear hn h6 hsz
  go_enter Try.func61, Try.ntmps61
  go_wp2_with (first
    |
      (go_at_call 92
       refine (ref_fault' _ x _ HC0.out HST.out).mono ?_
       rintro e w1 ⟨rfl, hx1⟩
       have hbx1 := hx1.blk (b := w.heap.size) (o := .cells x.cells 31 (0, 0)) (by simp only [heap_alloc_past, heap_alloc_at, World.size_alloc, Nat.lt_add_one]) id
       have hbr1 := hx1.blk (b := w.heap.size + 1) (o := .cells Answer.zero.cells 28 (0, 0)) (by simp only [heap_alloc_at, World.size_alloc]) id
       have ht1 := (((Touch.refl (fun _ => False) w).alloc (.cells x.cells 31)).alloc (.cells Answer.zero.cells 28)).trans hx1
       have hbg1 := ht1.blk H.out.cell id
       have hc10 := cell_of hbx1 0
       have hc11 := cell_of hbx1 1
       have hc12 := cell_of hbx1 2
       have hc13 := cell_of hbx1 3
       have hcg1 := cell_of hbg1 0
       have hlb1 : w.heap.size + 2 ≤ w1.heap.size := by have := hx1.size; simpa using this
       have HE1 := Lib.hid (show Ext w w1 from ht1)
       have HBG1 := Lib.hid hbg1
       have HRD := Lib.hid (Reads.ext H.out.reads ht1)
       clear hx1 ht1)
    | (go_at_call 25
       refine (drawer_names w1 A c d HRD.out (by omega)).mono ?_
       rintro e w2 ⟨A2, c2, he2, ho2, hx2, hf2⟩
       subst he2
       have hbr2 := hx2.blk (b := w.heap.size + 1) hbr1 id
       have hlw2 := hx2.size
       have HO2 := Lib.hid ho2
       have HX2 := Lib.hid hx2
       clear ho2 hx2 hf2))
  generalize dNames d = L at *
  go_loop [6, 8] (fun s i => ∃ k : Nat, i = .int .i64 k ∧ k ≤ L.length ∧ s = .string (joinSp (L.take k))) (fun _ i => L.length - (intOf i).toNat)
  case atStart => exact ⟨0, rfl, Nat.zero_le _, rfl⟩
  case round =>
    obtain ⟨k, rfl, hk, rfl⟩ := hrel
    by_cases hlt2 : k < L.length
    · obtain ⟨s, hs⟩ : ∃ s, L[k]? = some s := ⟨L[k], by simp [hlt2]⟩
      obtain ⟨ad1, rfl, _, hat1⟩ := HO2.out.reads k s hs
      have hcs : w2.cell? (ad1.add k) = some (.string s) := by have := hat1 0 (.string s) rfl; rwa [addr_add_add, show k * Lies.size ByteArray + 0 = k from Nat.mul_one k] at this
      have hss : s.size ≤ 5 := HSZ.out s (List.mem_of_getElem? hs)
      have hjs : (joinSp (L.take k)).size ≤ 36 := by
        have h1 := size_joinSp (l := L.take k) (m := 5) (fun s hs => HSZ.out s (List.mem_of_mem_take hs))
        rw [List.length_take] at h1
        have h2 : min k L.length * (5 + 1) ≤ 6 * 6 := Nat.mul_le_mul (by omega) (Nat.le_refl _)
        omega
      have HS := Lib.hid hs
      clear hs hat1
      obtain ⟨J, hJ⟩ : ∃ J, joinSp (L.take k) = J := ⟨_, rfl⟩
      have HJ0 := Lib.hid hJ
      rw [hJ] at hjs ⊢
      by_cases hk0 : k = 0
      · have HJ := Lib.hid (show J ++ s = joinSp (L.take (k + 1)) by
          subst hk0
          rw [← HJ0.out, joinSp_take_zero HS.out]
          exact noText_append s)
        have hk1 : decide ((0 : Int) < (k : Int)) = false := by simp [hk0]
        have hk1n : ¬ (0 < k) := by omega
        have hk1d : decide (0 < k) = false := by simp [hk0]
        clear hk0 hJ
        go_wp2
        go_round
        case rel => exact ⟨k + 1, by go_num, by omega, by rw [← HJ.out]⟩
        case measure => simp [intOf]; omega
      · have hk1 : (0 : Int) < (k : Int) := by omega
        have hs1 : (J ++ (⟨#[32]⟩ : ByteArray)).size ≤ 37 := by rw [ByteArray.size_append]; show _ + 1 ≤ 37; omega
        have HJ := Lib.hid (joinSp_take_succ HS.out (by omega))
        clear hJ
        go_wp2
        go_round
        case rel => exact ⟨k + 1, by go_num, by omega, by rw [HJ.out, HJ0.out]⟩
        case measure => simp [intOf]; omega
    · obtain rfl : k = L.length := by omega
      go_wp2
      refine ret_cell rfl isAnswer (w.heap.size + 1) (⟨0, joinSp L⟩ : Answer) rfl (setRow_heap _ _ _ _ _ _ hbr2) rfl ?_
      unfold DDPost
      rw [HD.out]
      exact ⟨rfl, Rep.moved HR.out ((HE1.out.trans HX2.out).setRow (.inr (by omega)) _)⟩
end Go.Proofs.Ytalfbhhldfffkab
