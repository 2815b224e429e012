/- Text: what names, texts and calls may be, in plain terms. No program is walked here.
   Drawer: what files come to, in plain terms: in any order (the document's), and by rising names (the code's); their laws. No program is walked here.
   Drawer2: a call of files, in plain terms: what it is answered and what becomes of the files; the document's and the code's are one. No program is walked here.
   CodecP: records as bytes, in plain terms: there and back. No program is walked here. -/
import Derived.Test.YtalfbhhldfffkabDoorBase
namespace Go.Proofs.YtalfbhhldfffkabDoor
open Go.RowKit

/-- The first n bytes of s lie between lo and hi. -/
def Within (lo hi : Nat) (s : ByteArray) (n : Nat) : Prop := ∀ i (h : i < s.size), i < n → lo ≤ s[i].toNat ∧ s[i].toNat ≤ hi
theorem Within.next {lo hi : Nat} {s : ByteArray} {k : Nat} (h : Within lo hi s k) (hk : k < s.size) (h1 : lo ≤ s[k].toNat) (h2 : s[k].toNat ≤ hi) : Within lo hi s (k + 1) := fun i hi' hn => by
  by_cases e : i = k
  · subst e; exact ⟨h1, h2⟩
  · exact h i hi' (by omega)
/-- a text of 1 to m bytes between lo and hi -/
def okText (lo hi m : Nat) (s : ByteArray) : Bool := s.toList.all (fun b => decide (lo ≤ b.toNat) && decide (b.toNat ≤ hi)) && (decide (0 < s.size) && decide (s.size ≤ m))
theorem length_toList' (s : ByteArray) : s.toList.length = s.size := by
  rw [ByteArray.toList_eq]; simp
theorem okText_in {lo hi m : Nat} {s : ByteArray} (h : Within lo hi s s.size) : okText lo hi m s = (decide (0 < s.size) && decide (s.size ≤ m)) := by
  unfold okText
  have : (s.toList.all fun b => decide (lo ≤ b.toNat) && decide (b.toNat ≤ hi)) = true := by
    rw [List.all_eq_true]
    intro b hb
    obtain ⟨i, hi', rfl⟩ := List.getElem_of_mem hb
    have hlt : i < s.size := by rw [← length_toList' s]; exact hi'
    have e : s.toList[i] = s[i] := by
      simp only [ByteArray.toList_eq]
      rfl
    have := h i hlt hlt
    rw [e]
    simp [this.1, this.2]
  rw [this, Bool.true_and]
theorem okText_out {lo hi m : Nat} {s : ByteArray} {k : Nat} (hk : k < s.size) (h : s[k].toNat < lo ∨ hi < s[k].toNat) : okText lo hi m s = false := by
  unfold okText
  have : (s.toList.all fun b => decide (lo ≤ b.toNat) && decide (b.toNat ≤ hi)) = false := by
    rw [List.all_eq_false]
    have hk' : k < s.toList.length := by rw [length_toList' s]; exact hk
    refine ⟨s.toList[k], List.getElem_mem hk', ?_⟩
    have e : s.toList[k] = s[k] := by
      simp only [ByteArray.toList_eq]
      rfl
    rw [e]
    rcases h with h | h <;> simp <;> omega
  rw [this, Bool.false_and]
theorem isEmpty_toList (s : ByteArray) : s.toList.isEmpty = decide (s.size = 0) := by
  rw [← length_toList' s]
  cases s.toList <;> simp

theorem okText_size {lo hi m : Nat} {s : ByteArray} (h : s.size < 1 ∨ m < s.size) : okText lo hi m s = false := by
  unfold okText
  rcases h with h | h
  · rw [decide_eq_false (show ¬ 0 < s.size by omega)]; simp
  · rw [decide_eq_false (show ¬ s.size ≤ m by omega)]; simp

/-- Check's code, of a call. -/
def callCode (x : Call) : Int :=
  if x.kind < 1 ∨ 6 < x.kind then 1
  else if (x.kind = 6 ∧ x.name.toList.isEmpty = false) ∨ (x.kind ≠ 3 ∧ x.to_.toList.isEmpty = false) ∨ (x.kind ≠ 4 ∧ x.text.toList.isEmpty = false) then 3
  else if (x.kind ≠ 6 ∧ okText 97 122 5 x.name = false) ∨ (x.kind = 3 ∧ okText 97 122 5 x.to_ = false) then 2
  else if x.kind = 4 ∧ okText 32 126 8 x.text = false then 4
  else 0

end Go.Proofs.YtalfbhhldfffkabDoor
namespace Go.Proofs.YtalfbhhldfffkabDoor
open Go.RowKit

/-! ### Names -/
def bless (a b : ByteArray) : Bool := Op.bytesLess a.toList b.toList
theorem bytesLess_iff (x y : List UInt8) : Op.bytesLess x y = decide (x < y) := by
  induction x generalizing y with
  | nil => cases y <;> simp [Op.bytesLess]
  | cons a x ih =>
    cases y with
    | nil => simp [Op.bytesLess]
    | cons b y => rw [Op.bytesLess, ih, Bool.eq_iff_iff]; simp [List.cons_lt_cons_iff]
theorem bless_iff (a b : ByteArray) : bless a b = decide (a.toList < b.toList) := bytesLess_iff _ _
theorem toList_inj {a b : ByteArray} (h : a.toList = b.toList) : a = b := by
  rw [ByteArray.toList_eq, ByteArray.toList_eq] at h
  cases a; cases b
  simpa [Array.toList_inj] using h
theorem bless_irrefl (a : ByteArray) : bless a a = false := by rw [bless_iff]; simp [List.lt_irrefl]
theorem bless_trans {a b c : ByteArray} (h : bless a b = true) (h' : bless b c = true) : bless a c = true := by
  rw [bless_iff, decide_eq_true_iff] at *; exact List.lt_trans h h'
theorem bless_asymm {a b : ByteArray} (h : bless a b = true) : bless b a = false := by
  rw [bless_iff, decide_eq_true_iff] at h; rw [bless_iff, decide_eq_false_iff_not]; exact List.lt_asymm h
theorem bless_tri {a b : ByteArray} (h : bless a b = false) (h' : bless b a = false) : a = b := by
  rw [bless_iff, decide_eq_false_iff_not] at *
  exact toList_inj (List.le_antisymm (List.not_lt.1 h') (List.not_lt.1 h))

/-- by rising names -/
def Sorted (l : List FileD) : Prop := l.Pairwise fun a b => bless a.name b.name = true
theorem Sorted.eq {l r : List FileD} (hl : Sorted l) (hr : Sorted r) (h : l.Perm r) : l = r :=
  h.eq_of_pairwise (fun a b _ _ h1 h2 => by have := bless_asymm h1; rw [h2] at this; cases this) hl hr
theorem Sorted.names {l : List FileD} (h : Sorted l) : (l.map (·.name)).Nodup := by
  rw [List.nodup_iff_pairwise_ne, List.pairwise_map]
  exact h.imp fun {a b} hab e => by rw [e, bless_irrefl] at hab; cases hab

/-! ### Where a name stands -/
def dAt (d : List FileD) (n : ByteArray) : Option Nat := d.findIdx? fun f => decide (f.name = n)
theorem dAt_some {d : List FileD} {n : ByteArray} {i : Nat} (h : dAt d n = some i) : ∃ f, d[i]? = some f ∧ f.name = n ∧ i < d.length := by
  obtain ⟨hi, h1, _⟩ := List.findIdx?_eq_some_iff_getElem.1 h
  exact ⟨d[i], by simp [hi], by simpa using h1, hi⟩
theorem dAt_none {d : List FileD} {n : ByteArray} (h : dAt d n = none) : ∀ f ∈ d, f.name ≠ n := fun f hf => by
  have := List.findIdx?_eq_none_iff.1 h f hf
  simpa using this
theorem dAt_none' {d : List FileD} {n : ByteArray} (h : ∀ f ∈ d, f.name ≠ n) : dAt d n = none := List.findIdx?_eq_none_iff.2 fun f hf => by simpa using h f hf
theorem dAt_first {d : List FileD} {n : ByteArray} {i : Nat} {f : FileD} (h : d[i]? = some f) (hn : f.name = n) (hb : ∀ (j : Nat) g, j < i → d[j]? = some g → g.name ≠ n) : dAt d n = some i := by
  obtain ⟨hi, rfl⟩ := List.getElem?_eq_some_iff.1 h
  exact List.findIdx?_eq_some_iff_getElem.2 ⟨hi, by simpa using hn, fun j hj => by simpa using hb j _ hj (List.getElem?_eq_getElem (by omega))⟩
theorem nodup_at {d : List FileD} (hn : (d.map (·.name)).Nodup) {i j : Nat} {f g : FileD} (hi : d[i]? = some f) (hj : d[j]? = some g) (e : f.name = g.name) : i = j := by
  have h1 : (d.map (·.name))[i]? = some f.name := by simp [hi]
  have h2 : (d.map (·.name))[j]? = some f.name := by simp [hj, e]
  have hlt : i < (d.map (·.name)).length := (List.getElem?_eq_some_iff.1 h1).1
  exact (List.getElem?_inj hlt hn).1 (h1.trans h2.symm)
theorem dAt_of {d : List FileD} (hn : (d.map (·.name)).Nodup) {i : Nat} {f : FileD} (h : d[i]? = some f) : dAt d f.name = some i :=
  dAt_first h rfl fun j g hj hg e => by have := nodup_at hn hg h e; omega

/-- where a name would stand -/
def pos (l : List FileD) (n : ByteArray) : Nat := (l.takeWhile fun f => bless f.name n).length
theorem pos_le (l : List FileD) (n : ByteArray) : pos l n ≤ l.length := (List.takeWhile_sublist _).length_le
theorem take_len {α : Type} {a b l : List α} (h : a ++ b = l) : l.take a.length = a ∧ l.drop a.length = b := by subst h; simp
theorem pos_take (l : List FileD) (n : ByteArray) : l.take (pos l n) = l.takeWhile fun f => bless f.name n := (take_len List.takeWhile_append_dropWhile).1
theorem pos_drop (l : List FileD) (n : ByteArray) : l.drop (pos l n) = l.dropWhile fun f => bless f.name n := (take_len List.takeWhile_append_dropWhile).2
theorem mem_takeWhile {α : Type} {p : α → Bool} {l : List α} {x : α} (h : x ∈ l.takeWhile p) : p x = true := List.all_eq_true.1 (List.all_takeWhile (p := p) (l := l)) x h
theorem Sorted.above {l : List FileD} (h : Sorted l) (n : ByteArray) : ∀ f ∈ l.dropWhile (fun f => bless f.name n), bless f.name n = false := by
  induction l with
  | nil => intro f hf; simp at hf
  | cons x l ih =>
    obtain ⟨h1, h2⟩ := List.pairwise_cons.1 h
    rw [List.dropWhile_cons]
    split
    · exact ih h2
    · rename_i hx
      intro f hf
      have hx' : bless x.name n = false := by simpa using hx
      rcases List.mem_cons.1 hf with rfl | hf
      · exact hx'
      · cases hb : bless f.name n with
        | false => rfl
        | true => rw [bless_trans (h1 f hf) hb] at hx'; cases hx'
/-- what find looks for: all below are less, none from there on is -/
theorem pos_of {l : List FileD} {n : ByteArray} {p : Nat} (hp : p ≤ l.length) (h1 : ∀ (j : Nat) f, j < p → l[j]? = some f → bless f.name n = true) (h2 : ∀ (j : Nat) f, p ≤ j → l[j]? = some f → bless f.name n = false) : p = pos l n := by
  induction l generalizing p with
  | nil => simp at hp; simp [hp, pos]
  | cons x l ih =>
    unfold pos
    cases p with
    | zero => rw [List.takeWhile_cons, h2 0 x (Nat.le_refl _) rfl]; rfl
    | succ p =>
      rw [List.takeWhile_cons, h1 0 x (by omega) rfl]
      have := ih (p := p) (by simpa using hp) (fun j f hj hf => h1 (j + 1) f (by omega) (by simpa using hf)) (fun j f hj hf => h2 (j + 1) f (by omega) (by simpa using hf))
      simp [pos] at this ⊢
      exact this
theorem pos_less {l : List FileD} {n : ByteArray} {j : Nat} {f : FileD} (hj : j < pos l n) (hf : l[j]? = some f) : bless f.name n = true := by
  have h : (l.take (pos l n))[j]? = some f := by rw [List.getElem?_take, if_pos hj, hf]
  rw [pos_take] at h
  exact mem_takeWhile (p := fun f : FileD => bless f.name n) (List.mem_of_getElem? h)
theorem pos_more {l : List FileD} (hs : Sorted l) {n : ByteArray} {j : Nat} {f : FileD} (hj : pos l n ≤ j) (hf : l[j]? = some f) : bless f.name n = false := by
  have h : (l.drop (pos l n))[j - pos l n]? = some f := by rw [List.getElem?_drop, show pos l n + (j - pos l n) = j by omega, hf]
  rw [pos_drop] at h
  exact hs.above n f (List.mem_of_getElem? h)
/-- in a sorted list a name stands where it would stand -/
theorem pos_at {l : List FileD} (hs : Sorted l) {n : ByteArray} {i : Nat} (h : dAt l n = some i) : pos l n = i := by
  obtain ⟨f, hf, rfl, hi⟩ := dAt_some h
  refine (pos_of (by omega) (fun j g hj hg => ?_) (fun j g hj hg => ?_)).symm
  · obtain ⟨h1, e1⟩ := List.getElem?_eq_some_iff.1 hg
    obtain ⟨h2, e2⟩ := List.getElem?_eq_some_iff.1 hf
    subst e1; subst e2
    exact List.pairwise_iff_getElem.1 hs j i h1 h2 hj
  · obtain ⟨h1, e1⟩ := List.getElem?_eq_some_iff.1 hg
    obtain ⟨h2, e2⟩ := List.getElem?_eq_some_iff.1 hf
    subst e1; subst e2
    rcases Nat.lt_or_eq_of_le hj with hj | rfl
    · exact bless_asymm (List.pairwise_iff_getElem.1 hs i j h2 h1 hj)
    · exact bless_irrefl _

/-! ### Files that are more, less, other -/
def insAt (l : List FileD) (x : FileD) : List FileD := l.take (pos l x.name) ++ x :: l.drop (pos l x.name)
theorem insAt_perm (l : List FileD) (x : FileD) : (insAt l x).Perm (x :: l) := by
  unfold insAt
  refine List.perm_middle.trans ?_
  rw [List.take_append_drop]
theorem insAt_sorted {l : List FileD} (hs : Sorted l) {x : FileD} (hx : ∀ f ∈ l, f.name ≠ x.name) : Sorted (insAt l x) := by
  unfold insAt Sorted
  have hs' := hs
  unfold Sorted at hs'
  rw [← List.take_append_drop (pos l x.name) l, List.pairwise_append] at hs'
  obtain ⟨h1, h2, h3⟩ := hs'
  rw [List.pairwise_append]
  refine ⟨h1, List.pairwise_cons.2 ⟨fun f hf => ?_, h2⟩, fun a ha b hb => ?_⟩
  · have hl : f ∈ l := List.mem_of_mem_drop hf
    rw [pos_drop] at hf
    have hf' := hs.above x.name f hf
    cases hb : bless x.name f.name with
    | true => rfl
    | false => exact absurd (bless_tri hf' hb) (hx f hl)
  · rcases List.mem_cons.1 hb with rfl | hb
    · rw [pos_take] at ha
      exact mem_takeWhile (p := fun f : FileD => bless f.name b.name) ha
    · exact h3 a ha b hb
theorem perm_cons_eraseIdx {l : List FileD} {i : Nat} {x : FileD} (h : l[i]? = some x) : l.Perm (x :: l.eraseIdx i) := by
  obtain ⟨hi, rfl⟩ := List.getElem?_eq_some_iff.1 h
  rw [List.eraseIdx_eq_take_drop_succ]
  refine List.Perm.trans (.of_eq ?_) List.perm_middle
  rw [List.getElem_cons_drop, List.take_append_drop]
theorem perm_set {l : List FileD} {i : Nat} {y : FileD} (hi : i < l.length) : (l.set i y).Perm (y :: l.eraseIdx i) := by
  have h := perm_cons_eraseIdx (l := l.set i y) (i := i) (x := y) (by simp [hi])
  rwa [List.eraseIdx_set_eq] at h
theorem Sorted.erase {l : List FileD} (h : Sorted l) (i : Nat) : Sorted (l.eraseIdx i) := List.Pairwise.sublist (List.eraseIdx_sublist l i) h
theorem Sorted.set {l : List FileD} (h : Sorted l) {i : Nat} {x y : FileD} (hx : l[i]? = some x) (e : y.name = x.name) : Sorted (l.set i y) := by
  have h' : (l.map (·.name)).Pairwise (fun a b => bless a b = true) := by rw [List.pairwise_map]; exact h
  have e2 : (l.set i y).map (·.name) = l.map (·.name) := by
    rw [List.map_set]
    refine List.ext_getElem? fun j => ?_
    rw [List.getElem?_set]
    split
    · rename_i hj
      subst hj
      obtain ⟨hi, e1⟩ := List.getElem?_eq_some_iff.1 hx
      simp [hi, e, ← e1]
    · rfl
  have : ((l.set i y).map (·.name)).Pairwise (fun a b => bless a b = true) := by rw [e2]; exact h'
  rwa [List.pairwise_map] at this

/-! ### One order: the list by rising names of a list in any order -/
def Srt (l d : List FileD) : Prop := Sorted l ∧ l.Perm d
theorem Srt.nodup {l d : List FileD} (h : Srt l d) : (d.map (·.name)).Nodup := (h.2.map _).nodup_iff.1 h.1.names
theorem Srt.none {l d : List FileD} (h : Srt l d) (n : ByteArray) : dAt l n = .none ↔ dAt d n = .none :=
  ⟨fun h1 => dAt_none' fun f hf => dAt_none h1 f (h.2.mem_iff.2 hf), fun h1 => dAt_none' fun f hf => dAt_none h1 f (h.2.mem_iff.1 hf)⟩
theorem Srt.some {l d : List FileD} (h : Srt l d) {n : ByteArray} {i : Nat} (hi : dAt l n = .some i) : ∃ j x, dAt d n = .some j ∧ l[i]? = .some x ∧ d[j]? = .some x ∧ x.name = n := by
  obtain ⟨x, hx, rfl, _⟩ := dAt_some hi
  have hm : x ∈ d := h.2.mem_iff.1 (List.mem_of_getElem? hx)
  obtain ⟨j, hj, e⟩ := List.getElem_of_mem hm
  have hj' : d[j]? = .some x := by rw [List.getElem?_eq_getElem hj, e]
  exact ⟨j, x, dAt_of h.nodup hj', hx, hj', rfl⟩
theorem Srt.erase {l d : List FileD} (h : Srt l d) {i j : Nat} {x : FileD} (hi : l[i]? = .some x) (hj : d[j]? = .some x) : Srt (l.eraseIdx i) (d.eraseIdx j) :=
  ⟨h.1.erase i, List.Perm.cons_inv (a := x) ((perm_cons_eraseIdx hi).symm.trans (h.2.trans (perm_cons_eraseIdx hj)))⟩
theorem Srt.insert {l d : List FileD} (h : Srt l d) {x : FileD} (hx : dAt l x.name = .none) : Srt (insAt l x) (d ++ [x]) :=
  ⟨insAt_sorted h.1 (dAt_none hx), (insAt_perm l x).trans ((h.2.cons x).trans (List.perm_append_singleton x d).symm)⟩
theorem Srt.set {l d : List FileD} (h : Srt l d) {i j : Nat} {x y : FileD} (hi : l[i]? = .some x) (hj : d[j]? = .some x) (e : y.name = x.name) : Srt (l.set i y) (d.set j y) :=
  ⟨h.1.set hi e, (perm_set (List.getElem?_eq_some_iff.1 hi).1).trans (((h.erase hi hj).2.cons y).trans (perm_set (List.getElem?_eq_some_iff.1 hj).1).symm)⟩
theorem Srt.rename {l d : List FileD} (h : Srt l d) {i j : Nat} {x y : FileD} (hi : l[i]? = .some x) (hj : d[j]? = .some x) (e : dAt l y.name = .none) : Srt (insAt (l.eraseIdx i) y) (d.set j y) := by
  have h1 := h.erase hi hj
  refine ⟨insAt_sorted h1.1 fun f hf => dAt_none e f ((List.eraseIdx_sublist l i).subset hf), (insAt_perm _ y).trans ((h1.2.cons y).trans (perm_set (List.getElem?_eq_some_iff.1 hj).1).symm)⟩

/-! ### All names, by rising -/
def insName (n : ByteArray) (out : List ByteArray) : List ByteArray := (out.takeWhile fun m => bless m n) ++ n :: (out.dropWhile fun m => bless m n)
def dNames (d : List FileD) : List ByteArray := d.foldl (fun out x => insName x.name out) []
theorem insName_perm (n : ByteArray) (out : List ByteArray) : (insName n out).Perm (n :: out) := by
  unfold insName
  refine List.perm_middle.trans ?_
  rw [List.takeWhile_append_dropWhile]
def Rising (l : List ByteArray) : Prop := l.Pairwise fun a b => bless b a = false
theorem insName_rising {n : ByteArray} {out : List ByteArray} (h : Rising out) : Rising (insName n out) := by
  induction out with
  | nil => simp [insName, Rising]
  | cons m out ih =>
    obtain ⟨h1, h2⟩ := List.pairwise_cons.1 h
    unfold insName
    rw [List.takeWhile_cons, List.dropWhile_cons]
    split
    · rename_i hm
      refine List.pairwise_cons.2 ⟨fun a ha => ?_, ih h2⟩
      rcases List.mem_cons.1 ((insName_perm n out).mem_iff.1 ha) with rfl | ha
      · exact bless_asymm hm
      · exact h1 a ha
    · rename_i hm
      have hm' : bless m n = false := by simpa using hm
      refine List.pairwise_cons.2 ⟨fun a ha => ?_, h⟩
      rcases List.mem_cons.1 ha with rfl | ha
      · exact hm'
      · cases hb : bless a n with
        | false => rfl
        | true =>
          cases hc : bless m a with
          | true => rw [bless_trans hc hb] at hm'; cases hm'
          | false => have := bless_tri (h1 a ha) hc; subst this; rw [hb] at hm'; cases hm'
theorem foldl_names (d : List FileD) (out : List ByteArray) (h : Rising out) : Rising (d.foldl (fun out x => insName x.name out) out) ∧ (d.foldl (fun out x => insName x.name out) out).Perm (out ++ d.map (·.name)) := by
  induction d generalizing out with
  | nil => simpa using h
  | cons x d ih =>
    obtain ⟨h1, h2⟩ := ih (insName x.name out) (insName_rising h)
    refine ⟨h1, h2.trans ?_⟩
    refine ((insName_perm x.name out).append_right _).trans ?_
    rw [List.map_cons]
    exact List.perm_middle.symm
theorem Srt.names {l d : List FileD} (h : Srt l d) : dNames d = l.map (·.name) := by
  obtain ⟨h1, h2⟩ := foldl_names d [] List.Pairwise.nil
  refine List.Perm.eq_of_pairwise (le := fun a b => bless b a = false) (fun a b _ _ ha hb => bless_tri hb ha) h1 ?_ (h2.trans ?_)
  · rw [List.pairwise_map]; exact h.1.imp fun {a b} hab => bless_asymm hab
  · rw [List.nil_append]; exact (h.2.map _).symm
end Go.Proofs.YtalfbhhldfffkabDoor
namespace Go.Proofs.YtalfbhhldfffkabDoor
open Go.RowKit

def noText : ByteArray := ⟨#[]⟩
/-- all, with a blank between -/
def joinSp : List ByteArray → ByteArray
  | [] => noText
  | x :: l => l.foldl (fun s y => s ++ (⟨#[32]⟩ : ByteArray) ++ y) x
def ans (code : Int) : Answer := ⟨code, noText⟩

def ddo (d : List FileD) (c : Call) : Answer × List FileD :=
  if callCode c ≠ 0 then (ans (callCode c), d)
  else if c.kind = 6 then (⟨0, joinSp (dNames d)⟩, d)
  else if c.kind = 1 then (match dAt d c.name with
    | some _ => (ans 5, d)
    | none => if 6 ≤ d.length then (ans 7, d) else (ans 0, d ++ [⟨c.name, noText⟩]))
  else match dAt d c.name with
    | none => (ans 6, d)
    | some i => match d[i]? with
      | none => (ans 0, d)
      | some x =>
        if c.kind = 5 then (⟨0, x.text⟩, d)
        else if c.kind = 4 then (if 16 < x.text.size + c.text.size then (ans 7, d) else (ans 0, d.set i ⟨x.name, x.text ++ c.text⟩))
        else if c.kind = 3 then (match dAt d c.to_ with
          | some _ => (ans 5, d)
          | none => (ans 0, d.set i ⟨c.to_, x.text⟩))
        else (ans 0, d.eraseIdx i)
def fdo (l : List FileD) (c : Call) : Answer × List FileD :=
  if callCode c ≠ 0 then (ans (callCode c), l)
  else if c.kind = 6 then (⟨0, joinSp (l.map (·.name))⟩, l)
  else if c.kind = 1 then (match dAt l c.name with
    | some _ => (ans 5, l)
    | none => if 6 ≤ l.length then (ans 7, l) else (ans 0, insAt l ⟨c.name, noText⟩))
  else match dAt l c.name with
    | none => (ans 6, l)
    | some i => match l[i]? with
      | none => (ans 0, l)
      | some x =>
        if c.kind = 5 then (⟨0, x.text⟩, l)
        else if c.kind = 4 then (if 16 < x.text.size + c.text.size then (ans 7, l) else (ans 0, l.set i ⟨x.name, x.text ++ c.text⟩))
        else if c.kind = 3 then (match dAt l c.to_ with
          | some _ => (ans 5, l)
          | none => (ans 0, insAt (l.eraseIdx i) ⟨c.to_, x.text⟩))
        else (ans 0, l.eraseIdx i)

/-- The code's and the document's answers are one, and so are the files. -/
theorem fdo_ddo {l d : List FileD} (h : Srt l d) (c : Call) : (fdo l c).1 = (ddo d c).1 ∧ Srt (fdo l c).2 (ddo d c).2 := by
  unfold fdo ddo
  by_cases h0 : callCode c ≠ 0
  · rw [if_pos h0, if_pos h0]; exact ⟨rfl, h⟩
  rw [if_neg h0, if_neg h0]
  by_cases h6 : c.kind = 6
  · rw [if_pos h6, if_pos h6, h.names]; exact ⟨rfl, h⟩
  rw [if_neg h6, if_neg h6]
  by_cases h1 : c.kind = 1
  · rw [if_pos h1, if_pos h1]
    cases hl : dAt l c.name with
    | none =>
      rw [(h.none c.name).1 hl, h.2.length_eq]
      by_cases h7 : 6 ≤ d.length
      · simp only [if_pos h7]; exact ⟨trivial, h⟩
      · simp only [if_neg h7]; exact ⟨trivial, h.insert hl⟩
    | some i =>
      obtain ⟨j, x, hj, _⟩ := h.some hl
      rw [hj]
      exact ⟨rfl, h⟩
  rw [if_neg h1, if_neg h1]
  cases hl : dAt l c.name with
  | none => rw [(h.none c.name).1 hl]; exact ⟨rfl, h⟩
  | some i =>
    obtain ⟨j, x, hj, hi, hx, hn⟩ := h.some hl
    rw [hj]
    simp only [hi, hx]
    by_cases h5 : c.kind = 5
    · simp only [if_pos h5]; exact ⟨trivial, h⟩
    simp only [if_neg h5]
    by_cases h4 : c.kind = 4
    · simp only [if_pos h4]
      by_cases hs : 16 < x.text.size + c.text.size
      · simp only [if_pos hs]; exact ⟨trivial, h⟩
      · simp only [if_neg hs]; exact ⟨trivial, h.set hi hx rfl⟩
    simp only [if_neg h4]
    by_cases h3 : c.kind = 3
    · simp only [if_pos h3]
      cases ht : dAt l c.to_ with
      | none => rw [(h.none c.to_).1 ht]; exact ⟨rfl, h.rename hi hx ht⟩
      | some k =>
        obtain ⟨k', x', hk', _⟩ := h.some ht
        rw [hk']
        exact ⟨rfl, h⟩
    · simp only [if_neg h3]; exact ⟨trivial, h.erase hi hx⟩

/-! ### What holds of all files -/
structure FOk (l : List FileD) : Prop where
  srt : Sorted l
  len : l.length ≤ 6
  each : ∀ f ∈ l, okText 97 122 5 f.name = true ∧ f.text.size ≤ 16
theorem FOk.nil : FOk [] := ⟨List.Pairwise.nil, by simp, fun f h => by simp at h⟩
theorem FOk.sublist {l r : List FileD} (h : FOk l) (hr : r.Sublist l) : FOk r := ⟨List.Pairwise.sublist hr h.srt, Nat.le_trans hr.length_le h.len, fun f hf => h.each f (hr.subset hf)⟩
theorem FOk.insert {l : List FileD} (h : FOk l) {x : FileD} (hl : l.length < 6) (hx : dAt l x.name = none) (h1 : okText 97 122 5 x.name = true) (h2 : x.text.size ≤ 16) : FOk (insAt l x) :=
  ⟨insAt_sorted h.srt (dAt_none hx), by rw [(insAt_perm l x).length_eq, List.length_cons]; omega, fun f hf => by
    rcases List.mem_cons.1 ((insAt_perm l x).mem_iff.1 hf) with rfl | hf
    · exact ⟨h1, h2⟩
    · exact h.each f hf⟩
theorem FOk.set {l : List FileD} (h : FOk l) {i : Nat} {x y : FileD} (hi : l[i]? = some x) (e : y.name = x.name) (h2 : y.text.size ≤ 16) : FOk (l.set i y) :=
  ⟨h.srt.set hi e, by rw [List.length_set]; exact h.len, fun f hf => by
    rcases List.mem_or_eq_of_mem_set hf with hf | rfl
    · exact h.each f hf
    · exact ⟨by rw [e]; exact (h.each x (List.mem_of_getElem? hi)).1, h2⟩⟩

/-- what a code of 0 says of a call -/
theorem callCode_name {c : Call} (h : callCode c = 0) (h6 : c.kind ≠ 6) : okText 97 122 5 c.name = true := by
  unfold callCode at h
  split at h
  · cases h
  split at h
  · cases h
  split at h
  · cases h
  · rename_i hn
    cases hb : okText 97 122 5 c.name with
    | true => rfl
    | false => exact (hn (.inl ⟨h6, hb⟩)).elim
theorem callCode_to {c : Call} (h : callCode c = 0) (h3 : c.kind = 3) : okText 97 122 5 c.to_ = true := by
  unfold callCode at h
  split at h
  · cases h
  split at h
  · cases h
  split at h
  · cases h
  · rename_i hn
    cases hb : okText 97 122 5 c.to_ with
    | true => rfl
    | false => exact (hn (.inr ⟨h3, hb⟩)).elim
theorem callCode_kind {c : Call} (h : callCode c = 0) : 1 ≤ c.kind ∧ c.kind ≤ 6 := by
  unfold callCode at h
  split at h
  · cases h
  · omega
theorem noText_toList : noText.toList = [] := by rw [ByteArray.toList_eq]; rfl
theorem empty_of {s : ByteArray} (h : s.toList.isEmpty = true) : s = noText := toList_inj (by rw [List.isEmpty_iff.1 h, noText_toList])
theorem callCode_form {c : Call} (h : callCode c = 0) : (c.kind = 6 → c.name = noText) ∧ (c.kind ≠ 3 → c.to_ = noText) ∧ (c.kind ≠ 4 → c.text = noText) := by
  unfold callCode at h
  split at h
  · cases h
  split at h
  · cases h
  · rename_i hf
    refine ⟨fun h6 => ?_, fun h3 => ?_, fun h4 => ?_⟩
    · cases hb : c.name.toList.isEmpty with
      | true => exact empty_of hb
      | false => exact (hf (.inl ⟨h6, hb⟩)).elim
    · cases hb : c.to_.toList.isEmpty with
      | true => exact empty_of hb
      | false => exact (hf (.inr (.inl ⟨h3, hb⟩))).elim
    · cases hb : c.text.toList.isEmpty with
      | true => exact empty_of hb
      | false => exact (hf (.inr (.inr ⟨h4, hb⟩))).elim
theorem callCode_text {c : Call} (h : callCode c = 0) (h4 : c.kind = 4) : okText 32 126 8 c.text = true := by
  unfold callCode at h
  split at h
  · cases h
  split at h
  · cases h
  split at h
  · cases h
  split at h
  · cases h
  · rename_i hn
    cases hb : okText 32 126 8 c.text with
    | true => rfl
    | false => exact (hn ⟨h4, hb⟩).elim

theorem callCode_bounds {c : Call} (h : callCode c ≠ 0) : 0 < callCode c ∧ callCode c ≤ 99 := by
  unfold callCode at h ⊢
  split
  · decide
  split
  · decide
  split
  · decide
  split
  · decide
  · rename_i h1 h2 h3 h4
    rw [if_neg h1, if_neg h2, if_neg h3, if_neg h4] at h
    exact (h rfl).elim
/-- a call of files, in all its ways -/
def FWay (l : List FileD) (c : Call) (r : Answer × List FileD) : Prop :=
  (∃ k : Int, (0 < k ∧ k ≤ 99) ∧ r = (ans k, l)) ∨
  (callCode c = 0 ∧ c.kind = 6 ∧ r = (⟨0, joinSp (l.map (·.name))⟩, l)) ∨
  (callCode c = 0 ∧ c.kind = 1 ∧ dAt l c.name = none ∧ l.length < 6 ∧ r = (ans 0, insAt l ⟨c.name, noText⟩)) ∨
  (callCode c = 0 ∧ c.kind = 5 ∧ ∃ i x, dAt l c.name = some i ∧ l[i]? = some x ∧ x.name = c.name ∧ r = (⟨0, x.text⟩, l)) ∨
  (callCode c = 0 ∧ c.kind = 4 ∧ ∃ i x, dAt l c.name = some i ∧ l[i]? = some x ∧ x.name = c.name ∧ x.text.size + c.text.size ≤ 16 ∧ r = (ans 0, l.set i ⟨x.name, x.text ++ c.text⟩)) ∨
  (callCode c = 0 ∧ c.kind = 3 ∧ ∃ i x, dAt l c.name = some i ∧ l[i]? = some x ∧ x.name = c.name ∧ dAt l c.to_ = none ∧ r = (ans 0, insAt (l.eraseIdx i) ⟨c.to_, x.text⟩)) ∨
  (callCode c = 0 ∧ c.kind = 2 ∧ ∃ i x, dAt l c.name = some i ∧ l[i]? = some x ∧ x.name = c.name ∧ r = (ans 0, l.eraseIdx i))
theorem fdo_way (l : List FileD) (c : Call) : FWay l c (fdo l c) := by
  unfold fdo
  by_cases h0 : callCode c ≠ 0
  · rw [if_pos h0]; exact .inl ⟨_, callCode_bounds h0, rfl⟩
  rw [if_neg h0]
  have h0' : callCode c = 0 := by simpa using h0
  have hk := callCode_kind h0'
  by_cases h6 : c.kind = 6
  · rw [if_pos h6]; exact .inr (.inl ⟨h0', h6, rfl⟩)
  rw [if_neg h6]
  by_cases h1 : c.kind = 1
  · rw [if_pos h1]
    cases hl : dAt l c.name with
    | none =>
      by_cases h7 : 6 ≤ l.length
      · simp only [if_pos h7]; exact .inl ⟨_, by decide, rfl⟩
      · simp only [if_neg h7]; exact .inr (.inr (.inl ⟨h0', h1, hl, by omega, rfl⟩))
    | some i => exact .inl ⟨_, by decide, rfl⟩
  rw [if_neg h1]
  cases hl : dAt l c.name with
  | none => exact .inl ⟨_, by decide, rfl⟩
  | some i =>
    obtain ⟨x, hx, hn, _⟩ := dAt_some hl
    simp only [hx]
    by_cases h5 : c.kind = 5
    · simp only [if_pos h5]; exact .inr (.inr (.inr (.inl ⟨h0', h5, i, x, hl, hx, hn, rfl⟩)))
    simp only [if_neg h5]
    by_cases h4 : c.kind = 4
    · simp only [if_pos h4]
      by_cases hs : 16 < x.text.size + c.text.size
      · simp only [if_pos hs]; exact .inl ⟨_, by decide, rfl⟩
      · simp only [if_neg hs]; exact .inr (.inr (.inr (.inr (.inl ⟨h0', h4, i, x, hl, hx, hn, by omega, rfl⟩))))
    simp only [if_neg h4]
    by_cases h3 : c.kind = 3
    · simp only [if_pos h3]
      cases ht : dAt l c.to_ with
      | none => exact .inr (.inr (.inr (.inr (.inr (.inl ⟨h0', h3, i, x, hl, hx, hn, ht, rfl⟩)))))
      | some k => exact .inl ⟨_, by decide, rfl⟩
    · simp only [if_neg h3]; exact .inr (.inr (.inr (.inr (.inr (.inr ⟨h0', by omega, i, x, hl, hx, hn, rfl⟩)))))

theorem dAt_erase {l : List FileD} {i : Nat} {n : ByteArray} (h : dAt l n = none) : dAt (l.eraseIdx i) n = none := dAt_none' fun f hf => dAt_none h f ((List.eraseIdx_sublist l i).subset hf)
theorem FWay.ok {l : List FileD} {c : Call} {r : Answer × List FileD} (h : FWay l c r) (hl : FOk l) : FOk r.2 := by
  rcases h with ⟨k, _, rfl⟩ | ⟨_, _, rfl⟩ | ⟨h0, h, hn, hlen, rfl⟩ | ⟨_, _, i, x, hi, hx, e, rfl⟩ | ⟨h0, h, i, x, hi, hx, e, hs, rfl⟩ | ⟨h0, h, i, x, hi, hx, e, ht, rfl⟩ | ⟨h0, h, i, x, hi, hx, e, rfl⟩
  · exact hl
  · exact hl
  · exact hl.insert hlen hn (callCode_name h0 (by omega)) (by show (0 : Nat) ≤ 16; omega)
  · exact hl
  · exact hl.set hx rfl (by show (x.text ++ c.text).size ≤ 16; rw [ByteArray.size_append]; exact hs)
  · have hx' := (hl.each x (List.mem_of_getElem? hx)).2
    have hlt := (List.getElem?_eq_some_iff.1 hx).1
    exact (hl.sublist (List.eraseIdx_sublist l i)).insert (by rw [List.length_eraseIdx_of_lt hlt]; have := hl.len; omega) (dAt_erase ht) (callCode_to h0 h) hx'
  · exact hl.sublist (List.eraseIdx_sublist l i)
theorem fdo_ok {l : List FileD} (h : FOk l) (c : Call) : FOk (fdo l c).2 := (fdo_way l c).ok h
def fdos (l : List FileD) (cs : List Call) : List FileD := cs.foldl (fun l c => (fdo l c).2) l
theorem fdos_ok {l : List FileD} (h : FOk l) (cs : List Call) : FOk (fdos l cs) := by
  induction cs generalizing l with
  | nil => exact h
  | cons c cs ih => exact ih (fdo_ok h c)
theorem fdos_take {l : List FileD} {cs : List Call} {k : Nat} {c : Call} (h : cs[k]? = some c) : fdos l (cs.take (k + 1)) = (fdo (fdos l (cs.take k)) c).2 := by
  unfold fdos
  rw [List.take_add_one, h]
  simp

/-! ### Reading -/
def readOf (n : ByteArray) : Call := ⟨5, n, noText, noText⟩
theorem callCode_read {n : ByteArray} (h : okText 97 122 5 n = true) : callCode (readOf n) = 0 := by
  unfold callCode readOf
  simp [h, noText_toList]
theorem fdo_read {l : List FileD} (h : FOk l) {k : Nat} {x : FileD} (hx : l[k]? = some x) : fdo l (readOf x.name) = (⟨0, x.text⟩, l) := by
  have h1 := (h.each x (List.mem_of_getElem? hx)).1
  have h2 := dAt_of h.srt.names hx
  unfold fdo
  rw [if_neg (by simp [callCode_read h1])]
  show (if (5 : Int) = 6 then _ else if (5 : Int) = 1 then _ else match dAt l x.name with | none => _ | some i => match l[i]? with | none => _ | some x => if (5 : Int) = 5 then _ else _) = _
  rw [if_neg (by decide), if_neg (by decide), h2]
  simp only [hx]
  rfl
end Go.Proofs.YtalfbhhldfffkabDoor
namespace Go.Proofs.YtalfbhhldfffkabDoor
open Go.RowKit

def mkStr (l : List UInt8) : ByteArray := ⟨l.toArray⟩
theorem mkStr_toList (l : List UInt8) : (mkStr l).toList = l := by rw [ByteArray.toList_eq]; simp [mkStr]
theorem mkStr_of (s : ByteArray) : mkStr s.toList = s := toList_inj (mkStr_toList _)
theorem mkStr_size (l : List UInt8) : (mkStr l).size = l.length := by simp [mkStr, ByteArray.size]
def toByte (n : Int) : UInt8 := UInt8.ofNat n.toNat
theorem toByte_toNat {n : Int} (h : 0 ≤ n) (h' : n < 256) : ((toByte n).toNat : Int) = n := by
  unfold toByte
  have : (UInt8.ofNat n.toNat).toNat = n.toNat % 256 := UInt8.toNat_ofNat'
  rw [this]
  omega
theorem toByte_of (b : UInt8) : toByte (b.toNat : Int) = b := by
  unfold toByte
  rw [Int.toNat_natCast, UInt8.ofNat_toNat]

/-- codec.Check, of a record -/
def recCode (r : Record) : Int :=
  if r.client < 0 ∨ 3 ≤ r.client ∨ r.no < 1 ∨ 200 < r.no then 9
  else if ¬ (1 ≤ r.call.kind ∧ r.call.kind ≤ 4) then 1
  else if callCode r.call ≠ 0 then callCode r.call
  else if r.answer.code < 0 ∨ 99 < r.answer.code then 9
  else if r.answer.text.toList.isEmpty = false then 3
  else 0
/-- what a code of 0 says of a record -/
structure RecOk (r : Record) : Prop where
  client : 0 ≤ r.client ∧ r.client ≤ 2
  no : 1 ≤ r.no ∧ r.no ≤ 200
  kind : 1 ≤ r.call.kind ∧ r.call.kind ≤ 4
  call : callCode r.call = 0
  code : 0 ≤ r.answer.code ∧ r.answer.code ≤ 99
  text : r.answer.text = noText
theorem recCode_ok {r : Record} (h : recCode r = 0) : RecOk r := by
  unfold recCode at h
  by_cases h1 : r.client < 0 ∨ 3 ≤ r.client ∨ r.no < 1 ∨ 200 < r.no
  · rw [if_pos h1] at h; cases h
  rw [if_neg h1] at h
  by_cases h2 : ¬ (1 ≤ r.call.kind ∧ r.call.kind ≤ 4)
  · rw [if_pos h2] at h; cases h
  rw [if_neg h2] at h
  by_cases h3 : callCode r.call ≠ 0
  · rw [if_pos h3] at h; exact (h3 h).elim
  rw [if_neg h3] at h
  by_cases h4 : r.answer.code < 0 ∨ 99 < r.answer.code
  · rw [if_pos h4] at h; cases h
  rw [if_neg h4] at h
  by_cases h5 : r.answer.text.toList.isEmpty = false
  · rw [if_pos h5] at h; cases h
  exact ⟨by omega, by omega, by omega, by simpa using h3, by omega, empty_of (by simpa using h5)⟩
theorem recCode_of {r : Record} (h : RecOk r) : recCode r = 0 := by
  unfold recCode
  have h1 := h.client
  have h2 := h.no
  have h3 := h.code
  rw [if_neg (by omega), if_neg (by simpa using h.kind), if_neg (by simp [h.call]), if_neg (by omega), if_neg (by rw [h.text, noText_toList]; simp)]
theorem recCode_size {r : Record} (h : RecOk r) : r.call.name.size ≤ 5 ∧ r.call.to_.size ≤ 5 ∧ r.call.text.size ≤ 8 := by
  have hk := h.kind
  have hn := callCode_name h.call (by omega)
  have hf := callCode_form h.call
  have sz : ∀ {lo hi m : Nat} {s : ByteArray}, okText lo hi m s = true → s.size ≤ m := fun {lo hi m s} h => by
    unfold okText at h
    simp at h
    exact h.2.2
  refine ⟨sz hn, ?_, ?_⟩
  · by_cases h3 : r.call.kind = 3
    · exact sz (callCode_to h.call h3)
    · rw [hf.2.1 h3]; decide
  · by_cases h4 : r.call.kind = 4
    · exact sz (callCode_text h.call h4)
    · rw [hf.2.2 h4]; decide

/-! ### There -/
def strBytes (s : ByteArray) : List UInt8 := toByte s.size :: s.toList
def recBody (r : Record) : List UInt8 := [toByte r.client, toByte r.no, toByte r.call.kind, toByte r.answer.code] ++ (strBytes r.call.name ++ (strBytes r.call.to_ ++ strBytes r.call.text))
def recBytes (r : Record) : List UInt8 := toByte (((recBody r).length : Int) + 1) :: recBody r
theorem length_strBytes (s : ByteArray) : (strBytes s).length = s.size + 1 := by simp [strBytes, length_toList']
theorem length_recBody (r : Record) : (recBody r).length = 7 + r.call.name.size + r.call.to_.size + r.call.text.size := by simp [recBody, length_strBytes]; omega
theorem length_recBytes (r : Record) : (recBytes r).length = 8 + r.call.name.size + r.call.to_.size + r.call.text.size := by simp [recBytes, length_recBody]; omega
theorem recBytes_bounds {r : Record} (h : RecOk r) : 8 ≤ (recBytes r).length ∧ (recBytes r).length ≤ 26 := by
  have := recCode_size h; rw [length_recBytes]; omega

/-! ### Back -/
/-- a text off the beginning -/
def parseStr : List UInt8 → Option (ByteArray × List UInt8)
  | [] => none
  | k :: rest => if rest.length < k.toNat then none else some (mkStr (rest.take k.toNat), rest.drop k.toNat)
theorem parseStr_str {s : ByteArray} (hs : s.size < 256) (b : List UInt8) : parseStr (strBytes s ++ b) = some (s, b) := by
  have h1 := toByte_toNat (n := s.size) (by omega) (by omega)
  have h2 : (toByte (s.size : Int)).toNat = s.size := by omega
  have hl := length_toList' s
  show (if (s.toList ++ b).length < (toByte (s.size : Int)).toNat then none else some (mkStr ((s.toList ++ b).take (toByte (s.size : Int)).toNat), (s.toList ++ b).drop (toByte (s.size : Int)).toNat)) = _
  rw [h2, if_neg (by simp [hl]), ← hl, List.take_left, List.drop_left, mkStr_of]
theorem parseStr_some {b rest : List UInt8} {s : ByteArray} (h : parseStr b = some (s, rest)) : b = strBytes s ++ rest ∧ s.size < 256 := by
  cases b with
  | nil => cases h
  | cons k b =>
    rw [show parseStr (k :: b) = if b.length < k.toNat then none else some (mkStr (b.take k.toNat), b.drop k.toNat) from rfl] at h
    split at h
    · cases h
    · rename_i hlt
      injection h with h
      injection h with h1 h2
      subst h1; subst h2
      have hsz : (mkStr (b.take k.toNat)).size = k.toNat := by rw [mkStr_size, List.length_take]; omega
      refine ⟨?_, by rw [hsz]; exact k.toNat_lt⟩
      unfold strBytes
      rw [hsz, toByte_of, mkStr_toList, List.cons_append, List.take_append_drop]
def parse3 (b : List UInt8) : Option (ByteArray × ByteArray × ByteArray) :=
  match parseStr b with
  | none => none
  | some (x, b1) => match parseStr b1 with
    | none => none
    | some (y, b2) => match parseStr b2 with
      | none => none
      | some (z, b3) => if b3 = [] then some (x, y, z) else none
theorem parse3_some {b : List UInt8} {x y z : ByteArray} (h : parse3 b = some (x, y, z)) : b = strBytes x ++ (strBytes y ++ strBytes z) ∧ x.size < 256 ∧ y.size < 256 ∧ z.size < 256 := by
  unfold parse3 at h
  cases h1 : parseStr b with
  | none => rw [h1] at h; cases h
  | some p =>
    obtain ⟨x', b1⟩ := p
    rw [h1] at h
    simp only at h
    cases h2 : parseStr b1 with
    | none => rw [h2] at h; cases h
    | some p =>
      obtain ⟨y', b2⟩ := p
      rw [h2] at h
      simp only at h
      cases h3 : parseStr b2 with
      | none => rw [h3] at h; cases h
      | some p =>
        obtain ⟨z', b3⟩ := p
        rw [h3] at h
        simp only at h
        split at h
        · rename_i hb
          injection h with h
          injection h with e1 h
          injection h with e2 e3
          subst e1; subst e2; subst e3; subst hb
          obtain ⟨g1, s1⟩ := parseStr_some h1
          obtain ⟨g2, s2⟩ := parseStr_some h2
          obtain ⟨g3, s3⟩ := parseStr_some h3
          rw [g1, g2, g3, List.append_nil]
          exact ⟨rfl, s1, s2, s3⟩
        · cases h
theorem parse3_str {x y z : ByteArray} (hx : x.size < 256) (hy : y.size < 256) (hz : z.size < 256) : parse3 (strBytes x ++ (strBytes y ++ strBytes z)) = some (x, y, z) := by
  unfold parse3
  rw [parseStr_str hx]
  simp only
  rw [parseStr_str hy]
  simp only
  have := parseStr_str hz []
  rw [List.append_nil] at this
  rw [this]
  simp

def recOf (b : List UInt8) (s : ByteArray × ByteArray × ByteArray) : Record := ⟨((b.getD 1 0).toNat : Int), ((b.getD 2 0).toNat : Int), ⟨((b.getD 3 0).toNat : Int), s.1, s.2.1, s.2.2⟩, ⟨((b.getD 4 0).toNat : Int), noText⟩⟩
def decode (b : List UInt8) : Record × Int × Int :=
  if b = [] ∨ b.length < (b.getD 0 0).toNat then (Record.zero, 0, 8)
  else if (b.getD 0 0).toNat < 5 then (Record.zero, 0, 3)
  else match parse3 ((b.take (b.getD 0 0).toNat).drop 5) with
    | none => (Record.zero, 0, 3)
    | some s => if recCode (recOf b s) ≠ 0 then (Record.zero, 0, recCode (recOf b s)) else (recOf b s, ((b.getD 0 0).toNat : Int), 0)

/-- the bytes of a record, with whatever behind them, are decoded as it -/
theorem decode_bytes {r : Record} (h : RecOk r) (b : List UInt8) : decode (recBytes r ++ b) = (r, ((recBytes r).length : Int), 0) := by
  obtain ⟨h1, h2⟩ := recBytes_bounds h
  have hz := recCode_size h
  have hlen : ((toByte (((recBody r).length : Int) + 1)).toNat : Int) = (recBytes r).length := by
    rw [toByte_toNat (by omega) (by rw [length_recBody]; omega)]; simp [recBytes]
  have hn : ((recBytes r ++ b).getD 0 0).toNat = (recBytes r).length := by
    show (toByte (((recBody r).length : Int) + 1)).toNat = _; omega
  have hrec : recOf (recBytes r ++ b) (r.call.name, r.call.to_, r.call.text) = r := by
    have c1 := h.client; have c2 := h.no; have c3 := h.kind; have c4 := h.code
    show (⟨((toByte r.client).toNat : Int), ((toByte r.no).toNat : Int), ⟨((toByte r.call.kind).toNat : Int), r.call.name, r.call.to_, r.call.text⟩, ⟨((toByte r.answer.code).toNat : Int), noText⟩⟩ : Record) = r
    rw [toByte_toNat c1.1 (by omega), toByte_toNat (by omega) (by omega), toByte_toNat (by omega) (by omega), toByte_toNat c4.1 (by omega), ← h.text]
  unfold decode
  rw [if_neg (by rw [hn]; simp [recBytes]), if_neg (by rw [hn]; omega), hn, List.take_left]
  have hdrop : (recBytes r).drop 5 = strBytes r.call.name ++ (strBytes r.call.to_ ++ strBytes r.call.text) := rfl
  rw [hdrop, parse3_str (by omega) (by omega) (by omega)]
  simp only
  rw [hrec, recCode_of h, if_neg (by simp)]
/-- what is decoded begins with its bytes -/
theorem decode_zero {b : List UInt8} (h : (decode b).2.2 = 0) : RecOk (decode b).1 ∧ ∃ rest, b = recBytes (decode b).1 ++ rest ∧ (decode b).2.1 = ((recBytes (decode b).1).length : Int) := by
  unfold decode at h ⊢
  by_cases h1 : b = [] ∨ b.length < (b.getD 0 0).toNat
  · rw [if_pos h1] at h; cases h
  rw [if_neg h1] at h ⊢
  by_cases h2 : (b.getD 0 0).toNat < 5
  · rw [if_pos h2] at h; cases h
  rw [if_neg h2] at h ⊢
  cases hp : parse3 ((b.take (b.getD 0 0).toNat).drop 5) with
  | none => rw [hp] at h; cases h
  | some s =>
    rw [hp] at h
    simp only at h ⊢
    by_cases h3 : recCode (recOf b s) ≠ 0
    · rw [if_pos h3] at h; exact (h3 h).elim
    rw [if_neg h3]
    have hok := recCode_ok (by simpa using h3)
    refine ⟨hok, ?_⟩
    obtain ⟨x, y, z⟩ := s
    obtain ⟨hb, sx, sy, sz⟩ := parse3_some hp
    have hlen := congrArg List.length hb
    rw [List.length_drop, List.length_take, List.length_append, List.length_append, length_strBytes, length_strBytes, length_strBytes] at hlen
    match b, h1, h2, hb, hlen with
    | [], h1, _, _, _ => exact (h1 (.inl rfl)).elim
    | [n], h1, h2, _, _ => simp at h1 h2; omega
    | [n, _], h1, h2, _, _ => simp at h1 h2; omega
    | [n, _, _], h1, h2, _, _ => simp at h1 h2; omega
    | [n, _, _, _], h1, h2, _, _ => simp at h1 h2; omega
    | n :: b1 :: b2 :: b3 :: b4 :: t, h1, h2, hb, hlen =>
      have hn : (([n, b1, b2, b3, b4] ++ t).getD 0 0) = n := rfl
      simp only [List.getD_cons_zero, List.length_cons] at h1 h2 hlen hb ⊢
      have hle : n.toNat ≤ t.length + 5 := by
        have : ¬ t.length + 1 + 1 + 1 + 1 + 1 < n.toNat := fun e => h1 (.inr e)
        omega
      obtain ⟨m, hm⟩ : ∃ m, n.toNat = m + 5 := ⟨n.toNat - 5, by omega⟩
      rw [hm] at hb hlen
      have hb' : t.take m = strBytes x ++ (strBytes y ++ strBytes z) := hb
      have hbytes : recBytes (recOf (n :: b1 :: b2 :: b3 :: b4 :: t) (x, y, z)) = n :: b1 :: b2 :: b3 :: b4 :: t.take m := by
        have hbody : recBody (recOf (n :: b1 :: b2 :: b3 :: b4 :: t) (x, y, z)) = b1 :: b2 :: b3 :: b4 :: t.take m := by
          rw [hb']
          show [toByte (b1.toNat : Int), toByte (b2.toNat : Int), toByte (b3.toNat : Int), toByte (b4.toNat : Int)] ++ (strBytes x ++ (strBytes y ++ strBytes z)) = _
          simp only [toByte_of]
          rfl
        unfold recBytes
        rw [hbody]
        congr 1
        have : (((b1 :: b2 :: b3 :: b4 :: t.take m).length : Int) + 1) = (n.toNat : Int) := by
          simp only [List.length_cons, List.length_take]; omega
        rw [this, toByte_of]
      refine ⟨t.drop m, ?_, ?_⟩
      · rw [hbytes]; simp [List.take_append_drop]
      · rw [hbytes]; simp only [List.length_cons, List.length_take]; omega
theorem decode_code {b : List UInt8} (h : (decode b).2.2 ≠ 0) : decode b = (Record.zero, 0, (decode b).2.2) := by
  unfold decode at h ⊢
  by_cases h1 : b = [] ∨ b.length < (b.getD 0 0).toNat
  · rw [if_pos h1]
  rw [if_neg h1] at h ⊢
  by_cases h2 : (b.getD 0 0).toNat < 5
  · rw [if_pos h2]
  rw [if_neg h2] at h ⊢
  cases hp : parse3 ((b.take (b.getD 0 0).toNat).drop 5) with
  | none => rfl
  | some s =>
    rw [hp] at h
    simp only at h ⊢
    by_cases h3 : recCode (recOf b s) ≠ 0
    · rw [if_pos h3]
    · rw [if_neg h3] at h; exact (h rfl).elim
theorem recBytes_inj {r q : Record} (hr : RecOk r) (hq : RecOk q) (h : recBytes r = recBytes q) : r = q := by
  have h1 := decode_bytes hr []
  have h2 := decode_bytes hq []
  rw [h] at h1
  rw [h1] at h2
  injection h2
/-- bytes that are cut short are none -/
theorem decode_short {r : Record} (h : RecOk r) (k : Nat) (hk : k < (recBytes r).length) : (decode ((recBytes r).take k)).2.2 = 8 := by
  have hz := recCode_size h
  unfold decode
  rw [if_pos]
  cases k with
  | zero => exact .inl rfl
  | succ k =>
    right
    have hlen : ((toByte (((recBody r).length : Int) + 1)).toNat : Int) = (recBytes r).length := by
      rw [toByte_toNat (by omega) (by rw [length_recBody]; omega)]; simp [recBytes]
    have : (((recBytes r).take (k + 1)).getD 0 0).toNat = (recBytes r).length := by
      show (toByte (((recBody r).length : Int) + 1)).toNat = _; omega
    rw [this, List.length_take]
    omega

/-! ### All records with which bytes begin -/
def logBytes (l : List Record) : List UInt8 := l.flatMap recBytes
theorem logBytes_append (l r : List Record) : logBytes (l ++ r) = logBytes l ++ logBytes r := by simp [logBytes]
theorem logBytes_one (r : Record) : logBytes [r] = recBytes r := by simp [logBytes]
theorem logBytes_cons (r : Record) (l : List Record) : logBytes (r :: l) = recBytes r ++ logBytes l := by simp [logBytes]
/-- l: all records with which b begins, to the first that is none -/
structure IsAll (b : List UInt8) (l : List Record) : Prop where
  ok : ∀ r ∈ l, RecOk r
  rest : ∃ rest, b = logBytes l ++ rest ∧ (decode rest).2.2 ≠ 0
theorem IsAll.eq {b : List UInt8} {l r : List Record} (hl : IsAll b l) (hr : IsAll b r) : l = r := by
  obtain ⟨bl, e1, n1⟩ := hl.rest
  obtain ⟨br, e2, n2⟩ := hr.rest
  have ho1 := hl.ok
  have ho2 := hr.ok
  clear hl hr
  induction l generalizing b r with
  | nil =>
    cases r with
    | nil => rfl
    | cons x r =>
      rw [logBytes_cons, List.append_assoc] at e2
      have h := decode_bytes (ho2 x (by simp)) (logBytes r ++ br)
      rw [← e2, e1] at h
      simp only [logBytes, List.flatMap_nil, List.nil_append] at h
      rw [h] at n1
      exact (n1 rfl).elim
  | cons y l ih =>
    rw [logBytes_cons, List.append_assoc] at e1
    have h := decode_bytes (ho1 y (by simp)) (logBytes l ++ bl)
    rw [← e1] at h
    cases r with
    | nil =>
      simp only [logBytes, List.flatMap_nil, List.nil_append] at e2
      rw [e2] at h
      rw [h] at n2
      exact (n2 rfl).elim
    | cons x r =>
      rw [logBytes_cons, List.append_assoc] at e2
      have h' := decode_bytes (ho2 x (by simp)) (logBytes r ++ br)
      rw [← e2, h] at h'
      injection h' with h'
      subst h'
      rw [e1] at e2
      have e3 := List.append_cancel_left e2
      rw [ih (b := logBytes l ++ bl) (r := r) rfl e3 (fun r hr => ho1 r (List.mem_cons_of_mem _ hr)) (fun r hr => ho2 r (List.mem_cons_of_mem _ hr))]
def recAllF : Nat → List UInt8 → List Record
  | 0, _ => []
  | n + 1, b => if (decode b).2.2 = 0 then (decode b).1 :: recAllF n (b.drop (recBytes (decode b).1).length) else []
def recAll (b : List UInt8) : List Record := recAllF (b.length + 1) b
theorem recAllF_is (n : Nat) (b : List UInt8) (h : b.length < n) : IsAll b (recAllF n b) := by
  induction n generalizing b with
  | zero => omega
  | succ n ih =>
    unfold recAllF
    by_cases h0 : (decode b).2.2 = 0
    · rw [if_pos h0]
      obtain ⟨hok, rest, e, _⟩ := decode_zero h0
      have hb := recBytes_bounds hok
      have hl := congrArg List.length e
      rw [List.length_append] at hl
      have hd : b.drop (recBytes (decode b).1).length = rest := (take_len e.symm).2
      rw [hd]
      obtain ⟨ho, rest', e', n'⟩ := ih rest (by omega)
      refine ⟨fun r hr => ?_, rest', ?_, n'⟩
      · rcases List.mem_cons.1 hr with rfl | hr
        · exact hok
        · exact ho r hr
      · conv => lhs; rw [e, e']
        rw [logBytes_cons, List.append_assoc]
    · rw [if_neg h0]
      exact ⟨fun r hr => by simp at hr, b, by simp [logBytes], h0⟩
theorem recAll_is (b : List UInt8) : IsAll b (recAll b) := recAllF_is _ _ (by omega)
theorem recAll_of {b : List UInt8} {l : List Record} (h : IsAll b l) : recAll b = l := (recAll_is b).eq h
theorem decode_nil : (decode []).2.2 ≠ 0 := by
  have : (decode []).2.2 = 8 := rfl
  rw [this]; decide
theorem recAll_log {l : List Record} (h : ∀ r ∈ l, RecOk r) : recAll (logBytes l) = l := recAll_of ⟨h, [], by simp, decode_nil⟩
/-- what is cut is none: of records one behind the other, all that end ahead of the cut are there, and no other one -/
theorem recAll_cut {l : List Record} (h : ∀ r ∈ l, RecOk r) (k n : Nat) (hn : n ≤ l.length) (h1 : (logBytes (l.take n)).length ≤ k) (h2 : n < l.length → k < (logBytes (l.take (n + 1))).length) (_hk : k ≤ (logBytes l).length) : recAll ((logBytes l).take k) = l.take n := by
  refine recAll_of ⟨fun r hr => h r (List.mem_of_mem_take hr), ((logBytes l).take k).drop (logBytes (l.take n)).length, ?_, ?_⟩
  · conv => lhs; rw [← List.take_append_drop (logBytes (l.take n)).length ((logBytes l).take k)]
    congr 1
    rw [List.take_take, Nat.min_eq_left h1]
    exact (take_len (show logBytes (l.take n) ++ logBytes (l.drop n) = logBytes l by rw [← logBytes_append, List.take_append_drop])).1
  · have hd : ((logBytes l).take k).drop (logBytes (l.take n)).length = (logBytes (l.drop n)).take (k - (logBytes (l.take n)).length) := by
      rw [List.drop_take, (take_len (show logBytes (l.take n) ++ logBytes (l.drop n) = logBytes l by rw [← logBytes_append, List.take_append_drop])).2]
    rw [hd]
    by_cases hlt : n < l.length
    · have hd2 : l.drop n = l[n] :: l.drop (n + 1) := List.drop_eq_getElem_cons hlt
      have hr : RecOk l[n] := h _ (by simp)
      have h3 := h2 hlt
      rw [List.take_succ_eq_append_getElem hlt, logBytes_append, logBytes_one, List.length_append] at h3
      rw [hd2, logBytes_cons, List.take_append_of_le_length (by omega), decode_short hr _ (by omega)]
      decide
    · rw [List.drop_of_length_le (by omega)]
      simp [logBytes]
      exact decode_nil
end Go.Proofs.YtalfbhhldfffkabDoor
