/- Drawer: what files come to, in plain terms: in any order (the document's), and by rising names (the code's); their laws. No program is walked here. -/
import Derived.Test.YtalfbhhldfffkabText
namespace Go.Proofs.Ytalfbhhldfffkab
open Go.RowKit

/-! ### Names -/
def bless (a b : ByteArray) : Bool := Op.bytesLess a.toList b.toList
theorem bytesLess_iff (x y : List UInt8) : Op.bytesLess x y = decide (x < y) := by
  induction x generalizing y with
  | nil => cases y <;> simp [Op.bytesLess]
  | cons a x ih =>
    cases y with
    | nil => simp [Op.bytesLess]
    | cons b y => rw [Op.bytesLess, ih, Bool.eq_iff_iff]; simp [List.cons_lt_cons_iff]
theorem bless_iff (a b : ByteArray) : bless a b = decide (a.toList < b.toList) := bytesLess_iff _ _
theorem toList_inj {a b : ByteArray} (h : a.toList = b.toList) : a = b := by
  rw [ByteArray.toList_eq, ByteArray.toList_eq] at h
  cases a; cases b
  simpa [Array.toList_inj] using h
theorem bless_irrefl (a : ByteArray) : bless a a = false := by rw [bless_iff]; simp [List.lt_irrefl]
theorem bless_trans {a b c : ByteArray} (h : bless a b = true) (h' : bless b c = true) : bless a c = true := by
  rw [bless_iff, decide_eq_true_iff] at *; exact List.lt_trans h h'
theorem bless_asymm {a b : ByteArray} (h : bless a b = true) : bless b a = false := by
  rw [bless_iff, decide_eq_true_iff] at h; rw [bless_iff, decide_eq_false_iff_not]; exact List.lt_asymm h
theorem bless_tri {a b : ByteArray} (h : bless a b = false) (h' : bless b a = false) : a = b := by
  rw [bless_iff, decide_eq_false_iff_not] at *
  exact toList_inj (List.le_antisymm (List.not_lt.1 h') (List.not_lt.1 h))

/-- by rising names -/
def Sorted (l : List FileD) : Prop := l.Pairwise fun a b => bless a.name b.name = true
theorem Sorted.eq {l r : List FileD} (hl : Sorted l) (hr : Sorted r) (h : l.Perm r) : l = r :=
  h.eq_of_pairwise (fun a b _ _ h1 h2 => by have := bless_asymm h1; rw [h2] at this; cases this) hl hr
theorem Sorted.names {l : List FileD} (h : Sorted l) : (l.map (·.name)).Nodup := by
  rw [List.nodup_iff_pairwise_ne, List.pairwise_map]
  exact h.imp fun {a b} hab e => by rw [e, bless_irrefl] at hab; cases hab

/-! ### Where a name stands -/
def dAt (d : List FileD) (n : ByteArray) : Option Nat := d.findIdx? fun f => decide (f.name = n)
theorem dAt_some {d : List FileD} {n : ByteArray} {i : Nat} (h : dAt d n = some i) : ∃ f, d[i]? = some f ∧ f.name = n ∧ i < d.length := by
  obtain ⟨hi, h1, _⟩ := List.findIdx?_eq_some_iff_getElem.1 h
  exact ⟨d[i], by simp [hi], by simpa using h1, hi⟩
theorem dAt_none {d : List FileD} {n : ByteArray} (h : dAt d n = none) : ∀ f ∈ d, f.name ≠ n := fun f hf => by
  have := List.findIdx?_eq_none_iff.1 h f hf
  simpa using this
theorem dAt_none' {d : List FileD} {n : ByteArray} (h : ∀ f ∈ d, f.name ≠ n) : dAt d n = none := List.findIdx?_eq_none_iff.2 fun f hf => by simpa using h f hf
theorem dAt_first {d : List FileD} {n : ByteArray} {i : Nat} {f : FileD} (h : d[i]? = some f) (hn : f.name = n) (hb : ∀ (j : Nat) g, j < i → d[j]? = some g → g.name ≠ n) : dAt d n = some i := by
  obtain ⟨hi, rfl⟩ := List.getElem?_eq_some_iff.1 h
  exact List.findIdx?_eq_some_iff_getElem.2 ⟨hi, by simpa using hn, fun j hj => by simpa using hb j _ hj (List.getElem?_eq_getElem (by omega))⟩
theorem nodup_at {d : List FileD} (hn : (d.map (·.name)).Nodup) {i j : Nat} {f g : FileD} (hi : d[i]? = some f) (hj : d[j]? = some g) (e : f.name = g.name) : i = j := by
  have h1 : (d.map (·.name))[i]? = some f.name := by simp [hi]
  have h2 : (d.map (·.name))[j]? = some f.name := by simp [hj, e]
  have hlt : i < (d.map (·.name)).length := (List.getElem?_eq_some_iff.1 h1).1
  exact (List.getElem?_inj hlt hn).1 (h1.trans h2.symm)
theorem dAt_of {d : List FileD} (hn : (d.map (·.name)).Nodup) {i : Nat} {f : FileD} (h : d[i]? = some f) : dAt d f.name = some i :=
  dAt_first h rfl fun j g hj hg e => by have := nodup_at hn hg h e; omega

/-- where a name would stand -/
def pos (l : List FileD) (n : ByteArray) : Nat := (l.takeWhile fun f => bless f.name n).length
theorem pos_le (l : List FileD) (n : ByteArray) : pos l n ≤ l.length := (List.takeWhile_sublist _).length_le
theorem take_len {α : Type} {a b l : List α} (h : a ++ b = l) : l.take a.length = a ∧ l.drop a.length = b := by subst h; simp
theorem pos_take (l : List FileD) (n : ByteArray) : l.take (pos l n) = l.takeWhile fun f => bless f.name n := (take_len List.takeWhile_append_dropWhile).1
theorem pos_drop (l : List FileD) (n : ByteArray) : l.drop (pos l n) = l.dropWhile fun f => bless f.name n := (take_len List.takeWhile_append_dropWhile).2
theorem mem_takeWhile {α : Type} {p : α → Bool} {l : List α} {x : α} (h : x ∈ l.takeWhile p) : p x = true := List.all_eq_true.1 (List.all_takeWhile (p := p) (l := l)) x h
theorem Sorted.above {l : List FileD} (h : Sorted l) (n : ByteArray) : ∀ f ∈ l.dropWhile (fun f => bless f.name n), bless f.name n = false := by
  induction l with
  | nil => intro f hf; simp at hf
  | cons x l ih =>
    obtain ⟨h1, h2⟩ := List.pairwise_cons.1 h
    rw [List.dropWhile_cons]
    split
    · exact ih h2
    · rename_i hx
      intro f hf
      have hx' : bless x.name n = false := by simpa using hx
      rcases List.mem_cons.1 hf with rfl | hf
      · exact hx'
      · cases hb : bless f.name n with
        | false => rfl
        | true => rw [bless_trans (h1 f hf) hb] at hx'; cases hx'
/-- what find looks for: all below are less, none from there on is -/
theorem pos_of {l : List FileD} {n : ByteArray} {p : Nat} (hp : p ≤ l.length) (h1 : ∀ (j : Nat) f, j < p → l[j]? = some f → bless f.name n = true) (h2 : ∀ (j : Nat) f, p ≤ j → l[j]? = some f → bless f.name n = false) : p = pos l n := by
  induction l generalizing p with
  | nil => simp at hp; simp [hp, pos]
  | cons x l ih =>
    unfold pos
    cases p with
    | zero => rw [List.takeWhile_cons, h2 0 x (Nat.le_refl _) rfl]; rfl
    | succ p =>
      rw [List.takeWhile_cons, h1 0 x (by omega) rfl]
      have := ih (p := p) (by simpa using hp) (fun j f hj hf => h1 (j + 1) f (by omega) (by simpa using hf)) (fun j f hj hf => h2 (j + 1) f (by omega) (by simpa using hf))
      simp [pos] at this ⊢
      exact this
theorem pos_less {l : List FileD} {n : ByteArray} {j : Nat} {f : FileD} (hj : j < pos l n) (hf : l[j]? = some f) : bless f.name n = true := by
  have h : (l.take (pos l n))[j]? = some f := by rw [List.getElem?_take, if_pos hj, hf]
  rw [pos_take] at h
  exact mem_takeWhile (p := fun f : FileD => bless f.name n) (List.mem_of_getElem? h)
theorem pos_more {l : List FileD} (hs : Sorted l) {n : ByteArray} {j : Nat} {f : FileD} (hj : pos l n ≤ j) (hf : l[j]? = some f) : bless f.name n = false := by
  have h : (l.drop (pos l n))[j - pos l n]? = some f := by rw [List.getElem?_drop, show pos l n + (j - pos l n) = j by omega, hf]
  rw [pos_drop] at h
  exact hs.above n f (List.mem_of_getElem? h)
/-- in a sorted list a name stands where it would stand -/
theorem pos_at {l : List FileD} (hs : Sorted l) {n : ByteArray} {i : Nat} (h : dAt l n = some i) : pos l n = i := by
  obtain ⟨f, hf, rfl, hi⟩ := dAt_some h
  refine (pos_of (by omega) (fun j g hj hg => ?_) (fun j g hj hg => ?_)).symm
  · obtain ⟨h1, e1⟩ := List.getElem?_eq_some_iff.1 hg
    obtain ⟨h2, e2⟩ := List.getElem?_eq_some_iff.1 hf
    subst e1; subst e2
    exact List.pairwise_iff_getElem.1 hs j i h1 h2 hj
  · obtain ⟨h1, e1⟩ := List.getElem?_eq_some_iff.1 hg
    obtain ⟨h2, e2⟩ := List.getElem?_eq_some_iff.1 hf
    subst e1; subst e2
    rcases Nat.lt_or_eq_of_le hj with hj | rfl
    · exact bless_asymm (List.pairwise_iff_getElem.1 hs i j h2 h1 hj)
    · exact bless_irrefl _

/-! ### Files that are more, less, other -/
def insAt (l : List FileD) (x : FileD) : List FileD := l.take (pos l x.name) ++ x :: l.drop (pos l x.name)
theorem insAt_perm (l : List FileD) (x : FileD) : (insAt l x).Perm (x :: l) := by
  unfold insAt
  refine List.perm_middle.trans ?_
  rw [List.take_append_drop]
theorem insAt_sorted {l : List FileD} (hs : Sorted l) {x : FileD} (hx : ∀ f ∈ l, f.name ≠ x.name) : Sorted (insAt l x) := by
  unfold insAt Sorted
  have hs' := hs
  unfold Sorted at hs'
  rw [← List.take_append_drop (pos l x.name) l, List.pairwise_append] at hs'
  obtain ⟨h1, h2, h3⟩ := hs'
  rw [List.pairwise_append]
  refine ⟨h1, List.pairwise_cons.2 ⟨fun f hf => ?_, h2⟩, fun a ha b hb => ?_⟩
  · have hl : f ∈ l := List.mem_of_mem_drop hf
    rw [pos_drop] at hf
    have hf' := hs.above x.name f hf
    cases hb : bless x.name f.name with
    | true => rfl
    | false => exact absurd (bless_tri hf' hb) (hx f hl)
  · rcases List.mem_cons.1 hb with rfl | hb
    · rw [pos_take] at ha
      exact mem_takeWhile (p := fun f : FileD => bless f.name b.name) ha
    · exact h3 a ha b hb
theorem perm_cons_eraseIdx {l : List FileD} {i : Nat} {x : FileD} (h : l[i]? = some x) : l.Perm (x :: l.eraseIdx i) := by
  obtain ⟨hi, rfl⟩ := List.getElem?_eq_some_iff.1 h
  rw [List.eraseIdx_eq_take_drop_succ]
  refine List.Perm.trans (.of_eq ?_) List.perm_middle
  rw [List.getElem_cons_drop, List.take_append_drop]
theorem perm_set {l : List FileD} {i : Nat} {y : FileD} (hi : i < l.length) : (l.set i y).Perm (y :: l.eraseIdx i) := by
  have h := perm_cons_eraseIdx (l := l.set i y) (i := i) (x := y) (by simp [hi])
  rwa [List.eraseIdx_set_eq] at h
theorem Sorted.erase {l : List FileD} (h : Sorted l) (i : Nat) : Sorted (l.eraseIdx i) := List.Pairwise.sublist (List.eraseIdx_sublist l i) h
theorem Sorted.set {l : List FileD} (h : Sorted l) {i : Nat} {x y : FileD} (hx : l[i]? = some x) (e : y.name = x.name) : Sorted (l.set i y) := by
  have h' : (l.map (·.name)).Pairwise (fun a b => bless a b = true) := by rw [List.pairwise_map]; exact h
  have e2 : (l.set i y).map (·.name) = l.map (·.name) := by
    rw [List.map_set]
    refine List.ext_getElem? fun j => ?_
    rw [List.getElem?_set]
    split
    · rename_i hj
      subst hj
      obtain ⟨hi, e1⟩ := List.getElem?_eq_some_iff.1 hx
      simp [hi, e, ← e1]
    · rfl
  have : ((l.set i y).map (·.name)).Pairwise (fun a b => bless a b = true) := by rw [e2]; exact h'
  rwa [List.pairwise_map] at this

/-! ### One order: the list by rising names of a list in any order -/
def Srt (l d : List FileD) : Prop := Sorted l ∧ l.Perm d
theorem Srt.nodup {l d : List FileD} (h : Srt l d) : (d.map (·.name)).Nodup := (h.2.map _).nodup_iff.1 h.1.names
theorem Srt.none {l d : List FileD} (h : Srt l d) (n : ByteArray) : dAt l n = .none ↔ dAt d n = .none :=
  ⟨fun h1 => dAt_none' fun f hf => dAt_none h1 f (h.2.mem_iff.2 hf), fun h1 => dAt_none' fun f hf => dAt_none h1 f (h.2.mem_iff.1 hf)⟩
theorem Srt.some {l d : List FileD} (h : Srt l d) {n : ByteArray} {i : Nat} (hi : dAt l n = .some i) : ∃ j x, dAt d n = .some j ∧ l[i]? = .some x ∧ d[j]? = .some x ∧ x.name = n := by
  obtain ⟨x, hx, rfl, _⟩ := dAt_some hi
  have hm : x ∈ d := h.2.mem_iff.1 (List.mem_of_getElem? hx)
  obtain ⟨j, hj, e⟩ := List.getElem_of_mem hm
  have hj' : d[j]? = .some x := by rw [List.getElem?_eq_getElem hj, e]
  exact ⟨j, x, dAt_of h.nodup hj', hx, hj', rfl⟩
theorem Srt.erase {l d : List FileD} (h : Srt l d) {i j : Nat} {x : FileD} (hi : l[i]? = .some x) (hj : d[j]? = .some x) : Srt (l.eraseIdx i) (d.eraseIdx j) :=
  ⟨h.1.erase i, List.Perm.cons_inv (a := x) ((perm_cons_eraseIdx hi).symm.trans (h.2.trans (perm_cons_eraseIdx hj)))⟩
theorem Srt.insert {l d : List FileD} (h : Srt l d) {x : FileD} (hx : dAt l x.name = .none) : Srt (insAt l x) (d ++ [x]) :=
  ⟨insAt_sorted h.1 (dAt_none hx), (insAt_perm l x).trans ((h.2.cons x).trans (List.perm_append_singleton x d).symm)⟩
theorem Srt.set {l d : List FileD} (h : Srt l d) {i j : Nat} {x y : FileD} (hi : l[i]? = .some x) (hj : d[j]? = .some x) (e : y.name = x.name) : Srt (l.set i y) (d.set j y) :=
  ⟨h.1.set hi e, (perm_set (List.getElem?_eq_some_iff.1 hi).1).trans (((h.erase hi hj).2.cons y).trans (perm_set (List.getElem?_eq_some_iff.1 hj).1).symm)⟩
theorem Srt.rename {l d : List FileD} (h : Srt l d) {i j : Nat} {x y : FileD} (hi : l[i]? = .some x) (hj : d[j]? = .some x) (e : dAt l y.name = .none) : Srt (insAt (l.eraseIdx i) y) (d.set j y) := by
  have h1 := h.erase hi hj
  refine ⟨insAt_sorted h1.1 fun f hf => dAt_none e f ((List.eraseIdx_sublist l i).subset hf), (insAt_perm _ y).trans ((h1.2.cons y).trans (perm_set (List.getElem?_eq_some_iff.1 hj).1).symm)⟩

/-! ### All names, by rising -/
def insName (n : ByteArray) (out : List ByteArray) : List ByteArray := (out.takeWhile fun m => bless m n) ++ n :: (out.dropWhile fun m => bless m n)
def dNames (d : List FileD) : List ByteArray := d.foldl (fun out x => insName x.name out) []
theorem insName_perm (n : ByteArray) (out : List ByteArray) : (insName n out).Perm (n :: out) := by
  unfold insName
  refine List.perm_middle.trans ?_
  rw [List.takeWhile_append_dropWhile]
def Rising (l : List ByteArray) : Prop := l.Pairwise fun a b => bless b a = false
theorem insName_rising {n : ByteArray} {out : List ByteArray} (h : Rising out) : Rising (insName n out) := by
  induction out with
  | nil => simp [insName, Rising]
  | cons m out ih =>
    obtain ⟨h1, h2⟩ := List.pairwise_cons.1 h
    unfold insName
    rw [List.takeWhile_cons, List.dropWhile_cons]
    split
    · rename_i hm
      refine List.pairwise_cons.2 ⟨fun a ha => ?_, ih h2⟩
      rcases List.mem_cons.1 ((insName_perm n out).mem_iff.1 ha) with rfl | ha
      · exact bless_asymm hm
      · exact h1 a ha
    · rename_i hm
      have hm' : bless m n = false := by simpa using hm
      refine List.pairwise_cons.2 ⟨fun a ha => ?_, h⟩
      rcases List.mem_cons.1 ha with rfl | ha
      · exact hm'
      · cases hb : bless a n with
        | false => rfl
        | true =>
          cases hc : bless m a with
          | true => rw [bless_trans hc hb] at hm'; cases hm'
          | false => have := bless_tri (h1 a ha) hc; subst this; rw [hb] at hm'; cases hm'
theorem foldl_names (d : List FileD) (out : List ByteArray) (h : Rising out) : Rising (d.foldl (fun out x => insName x.name out) out) ∧ (d.foldl (fun out x => insName x.name out) out).Perm (out ++ d.map (·.name)) := by
  induction d generalizing out with
  | nil => simpa using h
  | cons x d ih =>
    obtain ⟨h1, h2⟩ := ih (insName x.name out) (insName_rising h)
    refine ⟨h1, h2.trans ?_⟩
    refine ((insName_perm x.name out).append_right _).trans ?_
    rw [List.map_cons]
    exact List.perm_middle.symm
theorem Srt.names {l d : List FileD} (h : Srt l d) : dNames d = l.map (·.name) := by
  obtain ⟨h1, h2⟩ := foldl_names d [] List.Pairwise.nil
  refine List.Perm.eq_of_pairwise (le := fun a b => bless b a = false) (fun a b _ _ ha hb => bless_tri hb ha) h1 ?_ (h2.trans ?_)
  · rw [List.pairwise_map]; exact h.1.imp fun {a b} hab => bless_asymm hab
  · rw [List.nil_append]; exact (h.2.map _).symm
end Go.Proofs.Ytalfbhhldfffkab
