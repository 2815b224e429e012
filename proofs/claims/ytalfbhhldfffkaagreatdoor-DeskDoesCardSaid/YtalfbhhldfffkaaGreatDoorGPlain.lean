/- Text: what names, texts and calls may be, in plain terms. No program is walked here. (And behind it: Drawer, Drawer2, CodecP, FilesLaw, ChestP, Guest, PostP, HouseP, HouseLaw, HouseLaw2, HouseCalm, StoryP.) -/
import Derived.Test.YtalfbhhldfffkaaGreatDoorBase
set_option maxHeartbeats 8000000
set_option maxRecDepth 100000
namespace Go.Proofs.YtalfbhhldfffkaaGreatDoor
open Go.RowKit
def Within (lo hi : Nat) (s : ByteArray) (n : Nat) : Prop := ∀ i (h : i < s.size), i < n -> lo <= s[i].toNat /\ s[i].toNat <= hi
theorem Within.next {lo hi : Nat} {s : ByteArray} {k : Nat} (h : Within lo hi s k) (hk : k < s.size) (h1 : lo <= s[k].toNat) (h2 : s[k].toNat <= hi) : Within lo hi s (k + 1) := fun i hi' hn => by
 by_cases e : i = k
 ·subst e; exact ⟨h1, h2⟩
 ·exact h i hi' (by omega)
def okText (lo hi m : Nat) (s : ByteArray) : Bool := s.toList.all (fun b => decide (lo <= b.toNat) && decide (b.toNat <= hi)) && (decide (0 < s.size) && decide (s.size <= m))
theorem length_toList' (s : ByteArray) : s.toList.length = s.size := by
 rw [ByteArray.toList_eq]; simp
theorem okText_in {lo hi m : Nat} {s : ByteArray} (h : Within lo hi s s.size) : okText lo hi m s = (decide (0 < s.size) && decide (s.size <= m)) := by
 unfold okText
 have : (s.toList.all fun b => decide (lo <= b.toNat) && decide (b.toNat <= hi)) = true := by
  rw [List.all_eq_true];intro b hb;obtain ⟨i, hi', rfl⟩ := List.getElem_of_mem hb;have hlt : i < s.size := by rw [<- length_toList' s]; exact hi'
  have e : s.toList[i] = s[i] := by
   simp only [ByteArray.toList_eq];rfl
  have := h i hlt hlt;rw [e];simp [this.1, this.2]
 rw [this, Bool.true_and]
theorem okText_out {lo hi m : Nat} {s : ByteArray} {k : Nat} (hk : k < s.size) (h : s[k].toNat < lo \/ hi < s[k].toNat) : okText lo hi m s = false := by
 unfold okText
 have : (s.toList.all fun b => decide (lo <= b.toNat) && decide (b.toNat <= hi)) = false := by
  rw [List.all_eq_false];have hk' : k < s.toList.length := by rw [length_toList' s]; exact hk
  refine ⟨s.toList[k], List.getElem_mem hk', ?_⟩
  have e : s.toList[k] = s[k] := by
   simp only [ByteArray.toList_eq];rfl
  rw [e];rcases h with h | h <;> simp <;> omega
 rw [this, Bool.false_and]
theorem isEmpty_toList (s : ByteArray) : s.toList.isEmpty = decide (s.size = 0) := by
 rw [<- length_toList' s];cases s.toList <;> simp
theorem okText_size {lo hi m : Nat} {s : ByteArray} (h : s.size < 1 \/ m < s.size) : okText lo hi m s = false := by
 unfold okText;rcases h with h | h
 ·rw [decide_eq_false (show ¬ 0 < s.size by omega)]; simp
 ·rw [decide_eq_false (show ¬ s.size <= m by omega)]; simp
def callCode (x : Call) : Int :=
 if x.kind < 1 \/ 6 < x.kind then 1
 else if (x.kind = 6 /\ x.name.toList.isEmpty = false) \/ (x.kind ≠ 3 /\ x.to_.toList.isEmpty = false) \/ (x.kind ≠ 4 /\ x.text.toList.isEmpty = false) then 3
 else if (x.kind ≠ 6 /\ okText 97 122 5 x.name = false) \/ (x.kind = 3 /\ okText 97 122 5 x.to_ = false) then 2
 else if x.kind = 4 /\ okText 32 126 8 x.text = false then 4
 else 0
def bless (a b : ByteArray) : Bool := Op.bytesLess a.toList b.toList
theorem bytesLess_iff (x y : List UInt8) : Op.bytesLess x y = decide (x < y) := by
 induction x generalizing y with
 | nil => cases y <;> simp [Op.bytesLess]
 | cons a x ih =>
   cases y with
   | nil => simp [Op.bytesLess]
   | cons b y => rw [Op.bytesLess, ih, Bool.eq_iff_iff]; simp [List.cons_lt_cons_iff]
theorem bless_iff (a b : ByteArray) : bless a b = decide (a.toList < b.toList) := bytesLess_iff _ _
theorem toList_inj {a b : ByteArray} (h : a.toList = b.toList) : a = b := by
 rw [ByteArray.toList_eq, ByteArray.toList_eq] at h;cases a; cases b;simpa [Array.toList_inj] using h
theorem bless_irrefl (a : ByteArray) : bless a a = false := by rw [bless_iff]; simp [List.lt_irrefl]
theorem bless_trans {a b c : ByteArray} (h : bless a b = true) (h' : bless b c = true) : bless a c = true := by
 rw [bless_iff, decide_eq_true_iff] at *; exact List.lt_trans h h'
theorem bless_asymm {a b : ByteArray} (h : bless a b = true) : bless b a = false := by
 rw [bless_iff, decide_eq_true_iff] at h; rw [bless_iff, decide_eq_false_iff_not]; exact List.lt_asymm h
theorem bless_tri {a b : ByteArray} (h : bless a b = false) (h' : bless b a = false) : a = b := by
 rw [bless_iff, decide_eq_false_iff_not] at *;exact toList_inj (List.le_antisymm (List.not_lt.1 h') (List.not_lt.1 h))
def Sorted (l : List FileD) : Prop := l.Pairwise fun a b => bless a.name b.name = true
theorem Sorted.names {l : List FileD} (h : Sorted l) : (l.map (·.name)).Nodup := by
 rw [List.nodup_iff_pairwise_ne, List.pairwise_map];exact h.imp fun {a b} hab e => by rw [e, bless_irrefl] at hab; cases hab
def dAt (d : List FileD) (n : ByteArray) : Option Nat := d.findIdx? fun f => decide (f.name = n)
theorem dAt_some {d : List FileD} {n : ByteArray} {i : Nat} (h : dAt d n = some i) : ∃ f, d[i]? = some f /\ f.name = n /\ i < d.length := by
 obtain ⟨hi, h1, _⟩ := List.findIdx?_eq_some_iff_getElem.1 h;exact ⟨d[i], by simp [hi], by simpa using h1, hi⟩
theorem dAt_none {d : List FileD} {n : ByteArray} (h : dAt d n = none) : ∀ f ∈ d, f.name ≠ n := fun f hf => by
 have := List.findIdx?_eq_none_iff.1 h f hf;simpa using this
theorem dAt_none' {d : List FileD} {n : ByteArray} (h : ∀ f ∈ d, f.name ≠ n) : dAt d n = none := List.findIdx?_eq_none_iff.2 fun f hf => by simpa using h f hf
theorem dAt_first {d : List FileD} {n : ByteArray} {i : Nat} {f : FileD} (h : d[i]? = some f) (hn : f.name = n) (hb : ∀ (j : Nat) g, j < i -> d[j]? = some g -> g.name ≠ n) : dAt d n = some i := by
 obtain ⟨hi, rfl⟩ := lG h;exact List.findIdx?_eq_some_iff_getElem.2 ⟨hi, by simpa using hn, fun j hj => by simpa using hb j _ hj (List.getElem?_eq_getElem (by omega))⟩
theorem nodup_at {d : List FileD} (hn : (d.map (·.name)).Nodup) {i j : Nat} {f g : FileD} (hi : d[i]? = some f) (hj : d[j]? = some g) (e : f.name = g.name) : i = j := by
 have h1 : (d.map (·.name))[i]? = some f.name := by simp [hi]
 have h2 : (d.map (·.name))[j]? = some f.name := by simp [hj, e]
 have hlt : i < (d.map (·.name)).length := (lG h1).1;exact (List.getElem?_inj hlt hn).1 (h1.trans h2.symm)
theorem dAt_of {d : List FileD} (hn : (d.map (·.name)).Nodup) {i : Nat} {f : FileD} (h : d[i]? = some f) : dAt d f.name = some i :=
 dAt_first h rfl fun j g hj hg e => by have := nodup_at hn hg h e; omega
def pos (l : List FileD) (n : ByteArray) : Nat := (l.takeWhile fun f => bless f.name n).length
theorem pos_le (l : List FileD) (n : ByteArray) : pos l n <= l.length := (List.takeWhile_sublist _).length_le
theorem take_len {α : Type} {a b l : List α} (h : a ++ b = l) : l.take a.length = a /\ l.drop a.length = b := by subst h; simp
theorem pos_take (l : List FileD) (n : ByteArray) : l.take (pos l n) = l.takeWhile fun f => bless f.name n := (take_len List.takeWhile_append_dropWhile).1
theorem pos_drop (l : List FileD) (n : ByteArray) : l.drop (pos l n) = l.dropWhile fun f => bless f.name n := (take_len List.takeWhile_append_dropWhile).2
theorem mem_takeWhile {α : Type} {p : α -> Bool} {l : List α} {x : α} (h : x ∈ l.takeWhile p) : p x = true := List.all_eq_true.1 (List.all_takeWhile (p := p) (l := l)) x h
theorem Sorted.above {l : List FileD} (h : Sorted l) (n : ByteArray) : ∀ f ∈ l.dropWhile (fun f => bless f.name n), bless f.name n = false := by
 induction l with
 | nil => intro f hf; simp at hf
 | cons x l ih =>
   obtain ⟨h1, h2⟩ := List.pairwise_cons.1 h;rw [List.dropWhile_cons];split
   ·exact ih h2
   ·rename_i hx;intro f hf;have hx' : bless x.name n = false := by simpa using hx
    rcases List.mem_cons.1 hf with rfl | hf
    ·exact hx'
    ·cases hb : bless f.name n with
     | false => rfl
     | true => rw [bless_trans (h1 f hf) hb] at hx'; cases hx'
theorem pos_of {l : List FileD} {n : ByteArray} {p : Nat} (hp : p <= l.length) (h1 : ∀ (j : Nat) f, j < p -> l[j]? = some f -> bless f.name n = true) (h2 : ∀ (j : Nat) f, p <= j -> l[j]? = some f -> bless f.name n = false) : p = pos l n := by
 induction l generalizing p with
 | nil => simp at hp; simp [hp, pos]
 | cons x l ih =>
   unfold pos;cases p with
   | zero => rw [List.takeWhile_cons, h2 0 x (Nat.le_refl _) rfl]; rfl
   | succ p =>
     rw [List.takeWhile_cons, h1 0 x (by omega) rfl];have := ih (p := p) (by simpa using hp) (fun j f hj hf => h1 (j + 1) f (by omega) (by simpa using hf)) (fun j f hj hf => h2 (j + 1) f (by omega) (by simpa using hf));simp [pos] at this ⊢;exact this
theorem pos_at {l : List FileD} (hs : Sorted l) {n : ByteArray} {i : Nat} (h : dAt l n = some i) : pos l n = i := by
 obtain ⟨f, hf, rfl, hi⟩ := dAt_some h;refine (pos_of (by omega) (fun j g hj hg => ?_) (fun j g hj hg => ?_)).symm
 ·obtain ⟨h1, e1⟩ := lG hg;obtain ⟨h2, e2⟩ := lG hf;subst e1; subst e2;exact List.pairwise_iff_getElem.1 hs j i h1 h2 hj
 ·obtain ⟨h1, e1⟩ := lG hg;obtain ⟨h2, e2⟩ := lG hf;subst e1; subst e2;rcases Nat.lt_or_eq_of_le hj with hj | rfl
  ·exact bless_asymm (List.pairwise_iff_getElem.1 hs i j h2 h1 hj)
  ·exact bless_irrefl _
def insAt (l : List FileD) (x : FileD) : List FileD := l.take (pos l x.name) ++ x :: l.drop (pos l x.name)
theorem insAt_perm (l : List FileD) (x : FileD) : (insAt l x).Perm (x :: l) := by
 unfold insAt;refine List.perm_middle.trans ?_;rw [List.take_append_drop]
theorem insAt_sorted {l : List FileD} (hs : Sorted l) {x : FileD} (hx : ∀ f ∈ l, f.name ≠ x.name) : Sorted (insAt l x) := by
 unfold insAt Sorted;have hs' := hs;unfold Sorted at hs';rw [<- List.take_append_drop (pos l x.name) l, List.pairwise_append] at hs';obtain ⟨h1, h2, h3⟩ := hs';rw [List.pairwise_append];refine ⟨h1, List.pairwise_cons.2 ⟨fun f hf => ?_, h2⟩, fun a ha b hb => ?_⟩
 ·have hl : f ∈ l := List.mem_of_mem_drop hf;rw [pos_drop] at hf;have hf' := hs.above x.name f hf;cases hb : bless x.name f.name with
  | true => rfl
  | false => exact absurd (bless_tri hf' hb) (hx f hl)
 ·rcases List.mem_cons.1 hb with rfl | hb
  ·rw [pos_take] at ha;exact mem_takeWhile (p := fun f : FileD => bless f.name b.name) ha
  ·exact h3 a ha b hb
theorem perm_cons_eraseIdx {l : List FileD} {i : Nat} {x : FileD} (h : l[i]? = some x) : l.Perm (x :: l.eraseIdx i) := by
 obtain ⟨hi, rfl⟩ := lG h;rw [List.eraseIdx_eq_take_drop_succ];refine List.Perm.trans (.of_eq ?_) List.perm_middle;rw [List.getElem_cons_drop, List.take_append_drop]
theorem perm_set {l : List FileD} {i : Nat} {y : FileD} (hi : i < l.length) : (l.set i y).Perm (y :: l.eraseIdx i) := by
 have h := perm_cons_eraseIdx (l := l.set i y) (i := i) (x := y) (by simp [hi]);rwa [List.eraseIdx_set_eq] at h
theorem Sorted.erase {l : List FileD} (h : Sorted l) (i : Nat) : Sorted (l.eraseIdx i) := List.Pairwise.sublist (List.eraseIdx_sublist l i) h
theorem Sorted.set {l : List FileD} (h : Sorted l) {i : Nat} {x y : FileD} (hx : l[i]? = some x) (e : y.name = x.name) : Sorted (l.set i y) := by
 have h' : (l.map (·.name)).Pairwise (fun a b => bless a b = true) := by rw [List.pairwise_map]; exact h
 have e2 : (l.set i y).map (·.name) = l.map (·.name) := by
  rw [List.map_set];refine List.ext_getElem? fun j => ?_;rw [List.getElem?_set];split
  ·rename_i hj;subst hj;obtain ⟨hi, e1⟩ := lG hx;simp [hi, e, <- e1]
  ·rfl
 have : ((l.set i y).map (·.name)).Pairwise (fun a b => bless a b = true) := by rw [e2]; exact h'
 rwa [List.pairwise_map] at this
def Srt (l d : List FileD) : Prop := Sorted l /\ l.Perm d
theorem Srt.nodup {l d : List FileD} (h : Srt l d) : (d.map (·.name)).Nodup := (h.2.map _).nodup_iff.1 h.1.names
theorem Srt.none {l d : List FileD} (h : Srt l d) (n : ByteArray) : dAt l n = .none ↔ dAt d n = .none :=
 ⟨fun h1 => dAt_none' fun f hf => dAt_none h1 f (h.2.mem_iff.2 hf), fun h1 => dAt_none' fun f hf => dAt_none h1 f (h.2.mem_iff.1 hf)⟩
theorem Srt.some {l d : List FileD} (h : Srt l d) {n : ByteArray} {i : Nat} (hi : dAt l n = .some i) : ∃ j x, dAt d n = .some j /\ l[i]? = .some x /\ d[j]? = .some x /\ x.name = n := by
 obtain ⟨x, hx, rfl, _⟩ := dAt_some hi;have hm : x ∈ d := h.2.mem_iff.1 (List.mem_of_getElem? hx);obtain ⟨j, hj, e⟩ := List.getElem_of_mem hm;have hj' : d[j]? = .some x := by rw [List.getElem?_eq_getElem hj, e]
 exact ⟨j, x, dAt_of h.nodup hj', hx, hj', rfl⟩
theorem Srt.erase {l d : List FileD} (h : Srt l d) {i j : Nat} {x : FileD} (hi : l[i]? = .some x) (hj : d[j]? = .some x) : Srt (l.eraseIdx i) (d.eraseIdx j) :=
 ⟨h.1.erase i, List.Perm.cons_inv (a := x) ((perm_cons_eraseIdx hi).symm.trans (h.2.trans (perm_cons_eraseIdx hj)))⟩
theorem Srt.insert {l d : List FileD} (h : Srt l d) {x : FileD} (hx : dAt l x.name = .none) : Srt (insAt l x) (d ++ [x]) :=
 ⟨insAt_sorted h.1 (dAt_none hx), (insAt_perm l x).trans ((h.2.cons x).trans (List.perm_append_singleton x d).symm)⟩
theorem Srt.set {l d : List FileD} (h : Srt l d) {i j : Nat} {x y : FileD} (hi : l[i]? = .some x) (hj : d[j]? = .some x) (e : y.name = x.name) : Srt (l.set i y) (d.set j y) :=
 ⟨h.1.set hi e, (perm_set (lG hi).1).trans (((h.erase hi hj).2.cons y).trans (perm_set (lG hj).1).symm)⟩
theorem Srt.rename {l d : List FileD} (h : Srt l d) {i j : Nat} {x y : FileD} (hi : l[i]? = .some x) (hj : d[j]? = .some x) (e : dAt l y.name = .none) : Srt (insAt (l.eraseIdx i) y) (d.set j y) := by
 have h1 := h.erase hi hj;refine ⟨insAt_sorted h1.1 fun f hf => dAt_none e f ((List.eraseIdx_sublist l i).subset hf), (insAt_perm _ y).trans ((h1.2.cons y).trans (perm_set (lG hj).1).symm)⟩
def insName (n : ByteArray) (out : List ByteArray) : List ByteArray := (out.takeWhile fun m => bless m n) ++ n :: (out.dropWhile fun m => bless m n)
def dNames (d : List FileD) : List ByteArray := d.foldl (fun out x => insName x.name out) []
theorem insName_perm (n : ByteArray) (out : List ByteArray) : (insName n out).Perm (n :: out) := by
 unfold insName;refine List.perm_middle.trans ?_;rw [List.takeWhile_append_dropWhile]
def Rising (l : List ByteArray) : Prop := l.Pairwise fun a b => bless b a = false
theorem insName_rising {n : ByteArray} {out : List ByteArray} (h : Rising out) : Rising (insName n out) := by
 induction out with
 | nil => simp [insName, Rising]
 | cons m out ih =>
   obtain ⟨h1, h2⟩ := List.pairwise_cons.1 h;unfold insName;rw [List.takeWhile_cons, List.dropWhile_cons];split
   ·rename_i hm;refine List.pairwise_cons.2 ⟨fun a ha => ?_, ih h2⟩;rcases List.mem_cons.1 ((insName_perm n out).mem_iff.1 ha) with rfl | ha
    ·exact bless_asymm hm
    ·exact h1 a ha
   ·rename_i hm;have hm' : bless m n = false := by simpa using hm
    refine List.pairwise_cons.2 ⟨fun a ha => ?_, h⟩;rcases List.mem_cons.1 ha with rfl | ha
    ·exact hm'
    ·cases hb : bless a n with
     | false => rfl
     | true =>
       cases hc : bless m a with
       | true => rw [bless_trans hc hb] at hm'; cases hm'
       | false => have := bless_tri (h1 a ha) hc; subst this; rw [hb] at hm'; cases hm'
theorem foldl_names (d : List FileD) (out : List ByteArray) (h : Rising out) : Rising (d.foldl (fun out x => insName x.name out) out) /\ (d.foldl (fun out x => insName x.name out) out).Perm (out ++ d.map (·.name)) := by
 induction d generalizing out with
 | nil => simpa using h
 | cons x d ih =>
   obtain ⟨h1, h2⟩ := ih (insName x.name out) (insName_rising h);refine ⟨h1, h2.trans ?_⟩;refine ((insName_perm x.name out).append_right _).trans ?_;rw [List.map_cons];exact List.perm_middle.symm
theorem Srt.names {l d : List FileD} (h : Srt l d) : dNames d = l.map (·.name) := by
 obtain ⟨h1, h2⟩ := foldl_names d [] List.Pairwise.nil;refine List.Perm.eq_of_pairwise (le := fun a b => bless b a = false) (fun a b _ _ ha hb => bless_tri hb ha) h1 ?_ (h2.trans ?_)
 ·rw [List.pairwise_map]; exact h.1.imp fun {a b} hab => bless_asymm hab
 ·rw [List.nil_append]; exact (h.2.map _).symm
def noText : ByteArray := ⟨#[]⟩
def joinSp : List ByteArray -> ByteArray
 | [] => noText
 | x :: l => l.foldl (fun s y => s ++ (⟨#[32]⟩ : ByteArray) ++ y) x
def ans (code : Int) : Answer := ⟨code, noText⟩
def ddo (d : List FileD) (c : Call) : Answer × List FileD :=
 if callCode c ≠ 0 then (ans (callCode c), d)
 else if c.kind = 6 then (⟨0, joinSp (dNames d)⟩, d)
 else if c.kind = 1 then (match dAt d c.name with
  | some _ => (ans 5, d)
  | none => if 6 <= d.length then (ans 7, d) else (ans 0, d ++ [⟨c.name, noText⟩]))
 else match dAt d c.name with
  | none => (ans 6, d)
  | some i => match d[i]? with
    | none => (ans 0, d)
    | some x =>
      if c.kind = 5 then (⟨0, x.text⟩, d)
      else if c.kind = 4 then (if 16 < x.text.size + c.text.size then (ans 7, d) else (ans 0, d.set i ⟨x.name, x.text ++ c.text⟩))
      else if c.kind = 3 then (match dAt d c.to_ with
       | some _ => (ans 5, d)
       | none => (ans 0, d.set i ⟨c.to_, x.text⟩))
      else (ans 0, d.eraseIdx i)
def fdo (l : List FileD) (c : Call) : Answer × List FileD :=
 if callCode c ≠ 0 then (ans (callCode c), l)
 else if c.kind = 6 then (⟨0, joinSp (l.map (·.name))⟩, l)
 else if c.kind = 1 then (match dAt l c.name with
  | some _ => (ans 5, l)
  | none => if 6 <= l.length then (ans 7, l) else (ans 0, insAt l ⟨c.name, noText⟩))
 else match dAt l c.name with
  | none => (ans 6, l)
  | some i => match l[i]? with
    | none => (ans 0, l)
    | some x =>
      if c.kind = 5 then (⟨0, x.text⟩, l)
      else if c.kind = 4 then (if 16 < x.text.size + c.text.size then (ans 7, l) else (ans 0, l.set i ⟨x.name, x.text ++ c.text⟩))
      else if c.kind = 3 then (match dAt l c.to_ with
       | some _ => (ans 5, l)
       | none => (ans 0, insAt (l.eraseIdx i) ⟨c.to_, x.text⟩))
      else (ans 0, l.eraseIdx i)
theorem fdo_ddo {l d : List FileD} (h : Srt l d) (c : Call) : (fdo l c).1 = (ddo d c).1 /\ Srt (fdo l c).2 (ddo d c).2 := by
 unfold fdo ddo;by_cases h0 : callCode c ≠ 0
 ·rw [if_pos h0, if_pos h0]; exact ⟨rfl, h⟩
 rw [if_neg h0, if_neg h0];by_cases h6 : c.kind = 6
 ·rw [if_pos h6, if_pos h6, h.names]; exact ⟨rfl, h⟩
 rw [if_neg h6, if_neg h6];by_cases h1 : c.kind = 1
 ·rw [if_pos h1, if_pos h1];cases hl : dAt l c.name with
  | none =>
    rw [(h.none c.name).1 hl, h.2.length_eq];by_cases h7 : 6 <= d.length
    ·simp only [if_pos h7]; exact ⟨trivial, h⟩
    ·simp only [if_neg h7]; exact ⟨trivial, h.insert hl⟩
  | some i =>
    obtain ⟨j, x, hj, _⟩ := h.some hl;rw [hj];exact ⟨rfl, h⟩
 rw [if_neg h1, if_neg h1];cases hl : dAt l c.name with
 | none => rw [(h.none c.name).1 hl]; exact ⟨rfl, h⟩
 | some i =>
   obtain ⟨j, x, hj, hi, hx, hn⟩ := h.some hl;rw [hj];simp only [hi, hx];by_cases h5 : c.kind = 5
   ·simp only [if_pos h5]; exact ⟨trivial, h⟩
   simp only [if_neg h5];by_cases h4 : c.kind = 4
   ·simp only [if_pos h4];by_cases hs : 16 < x.text.size + c.text.size
    ·simp only [if_pos hs]; exact ⟨trivial, h⟩
    ·simp only [if_neg hs]; exact ⟨trivial, h.set hi hx rfl⟩
   simp only [if_neg h4];by_cases h3 : c.kind = 3
   ·simp only [if_pos h3];cases ht : dAt l c.to_ with
    | none => rw [(h.none c.to_).1 ht]; exact ⟨rfl, h.rename hi hx ht⟩
    | some k =>
      obtain ⟨k', x', hk', _⟩ := h.some ht;rw [hk'];exact ⟨rfl, h⟩
   ·simp only [if_neg h3]; exact ⟨trivial, h.erase hi hx⟩
structure FOk (l : List FileD) : Prop where
 srt : Sorted l
 len : l.length <= 6
 each : ∀ f ∈ l, okText 97 122 5 f.name = true /\ f.text.size <= 16
theorem FOk.nil : FOk [] := ⟨List.Pairwise.nil, by simp, fun f h => by simp at h⟩
theorem FOk.sublist {l r : List FileD} (h : FOk l) (hr : r.Sublist l) : FOk r := ⟨List.Pairwise.sublist hr h.srt, Nat.le_trans hr.length_le h.len, fun f hf => h.each f (hr.subset hf)⟩
theorem FOk.insert {l : List FileD} (h : FOk l) {x : FileD} (hl : l.length < 6) (hx : dAt l x.name = none) (h1 : okText 97 122 5 x.name = true) (h2 : x.text.size <= 16) : FOk (insAt l x) :=
 ⟨insAt_sorted h.srt (dAt_none hx), by rw [(insAt_perm l x).length_eq, List.length_cons]; omega, fun f hf => by
  rcases List.mem_cons.1 ((insAt_perm l x).mem_iff.1 hf) with rfl | hf
  ·exact ⟨h1, h2⟩
  ·exact h.each f hf⟩
theorem FOk.set {l : List FileD} (h : FOk l) {i : Nat} {x y : FileD} (hi : l[i]? = some x) (e : y.name = x.name) (h2 : y.text.size <= 16) : FOk (l.set i y) :=
 ⟨h.srt.set hi e, by rw [List.length_set]; exact h.len, fun f hf => by
  rcases List.mem_or_eq_of_mem_set hf with hf | rfl
  ·exact h.each f hf
  ·exact ⟨by rw [e]; exact (h.each x (List.mem_of_getElem? hi)).1, h2⟩⟩
theorem callCode_name {c : Call} (h : callCode c = 0) (h6 : c.kind ≠ 6) : okText 97 122 5 c.name = true := by
 unfold callCode at h;split at h
 ·cases h
 split at h
 ·cases h
 split at h
 ·cases h
 ·rename_i hn;cases hb : okText 97 122 5 c.name with
  | true => rfl
  | false => exact (hn (.inl ⟨h6, hb⟩)).elim
theorem callCode_to {c : Call} (h : callCode c = 0) (h3 : c.kind = 3) : okText 97 122 5 c.to_ = true := by
 unfold callCode at h;split at h
 ·cases h
 split at h
 ·cases h
 split at h
 ·cases h
 ·rename_i hn;cases hb : okText 97 122 5 c.to_ with
  | true => rfl
  | false => exact (hn (.inr ⟨h3, hb⟩)).elim
theorem callCode_kind {c : Call} (h : callCode c = 0) : 1 <= c.kind /\ c.kind <= 6 := by
 unfold callCode at h;split at h
 ·cases h
 ·omega
theorem noText_toList : noText.toList = [] := by rw [ByteArray.toList_eq]; rfl
theorem empty_of {s : ByteArray} (h : s.toList.isEmpty = true) : s = noText := toList_inj (by rw [List.isEmpty_iff.1 h, noText_toList])
theorem callCode_form {c : Call} (h : callCode c = 0) : (c.kind = 6 -> c.name = noText) /\ (c.kind ≠ 3 -> c.to_ = noText) /\ (c.kind ≠ 4 -> c.text = noText) := by
 unfold callCode at h;split at h
 ·cases h
 split at h
 ·cases h
 ·rename_i hf;refine ⟨fun h6 => ?_, fun h3 => ?_, fun h4 => ?_⟩
  ·cases hb : c.name.toList.isEmpty with
   | true => exact empty_of hb
   | false => exact (hf (.inl ⟨h6, hb⟩)).elim
  ·cases hb : c.to_.toList.isEmpty with
   | true => exact empty_of hb
   | false => exact (hf (.inr (.inl ⟨h3, hb⟩))).elim
  ·cases hb : c.text.toList.isEmpty with
   | true => exact empty_of hb
   | false => exact (hf (.inr (.inr ⟨h4, hb⟩))).elim
theorem callCode_text {c : Call} (h : callCode c = 0) (h4 : c.kind = 4) : okText 32 126 8 c.text = true := by
 unfold callCode at h;split at h
 ·cases h
 split at h
 ·cases h
 split at h
 ·cases h
 split at h
 ·cases h
 ·rename_i hn;cases hb : okText 32 126 8 c.text with
  | true => rfl
  | false => exact (hn ⟨h4, hb⟩).elim
theorem callCode_bounds {c : Call} (h : callCode c ≠ 0) : 0 < callCode c /\ callCode c <= 99 := by
 unfold callCode at h ⊢;split
 ·decide
 split
 ·decide
 split
 ·decide
 split
 ·decide
 ·rename_i h1 h2 h3 h4;rw [if_neg h1, if_neg h2, if_neg h3, if_neg h4] at h;exact (h rfl).elim
def FWay (l : List FileD) (c : Call) (r : Answer × List FileD) : Prop :=
 (∃ k : Int, (0 < k /\ k <= 99) /\ r = (ans k, l)) \/
 (callCode c = 0 /\ c.kind = 6 /\ r = (⟨0, joinSp (l.map (·.name))⟩, l)) \/
 (callCode c = 0 /\ c.kind = 1 /\ dAt l c.name = none /\ l.length < 6 /\ r = (ans 0, insAt l ⟨c.name, noText⟩)) \/
 (callCode c = 0 /\ c.kind = 5 /\ ∃ i x, dAt l c.name = some i /\ l[i]? = some x /\ x.name = c.name /\ r = (⟨0, x.text⟩, l)) \/
 (callCode c = 0 /\ c.kind = 4 /\ ∃ i x, dAt l c.name = some i /\ l[i]? = some x /\ x.name = c.name /\ x.text.size + c.text.size <= 16 /\ r = (ans 0, l.set i ⟨x.name, x.text ++ c.text⟩)) \/
 (callCode c = 0 /\ c.kind = 3 /\ ∃ i x, dAt l c.name = some i /\ l[i]? = some x /\ x.name = c.name /\ dAt l c.to_ = none /\ r = (ans 0, insAt (l.eraseIdx i) ⟨c.to_, x.text⟩)) \/
 (callCode c = 0 /\ c.kind = 2 /\ ∃ i x, dAt l c.name = some i /\ l[i]? = some x /\ x.name = c.name /\ r = (ans 0, l.eraseIdx i))
theorem fdo_way (l : List FileD) (c : Call) : FWay l c (fdo l c) := by
 unfold fdo;by_cases h0 : callCode c ≠ 0
 ·rw [if_pos h0]; exact .inl ⟨_, callCode_bounds h0, rfl⟩
 rw [if_neg h0];have h0' : callCode c = 0 := by simpa using h0
 have hk := callCode_kind h0';by_cases h6 : c.kind = 6
 ·rw [if_pos h6]; exact .inr (.inl ⟨h0', h6, rfl⟩)
 rw [if_neg h6];by_cases h1 : c.kind = 1
 ·rw [if_pos h1];cases hl : dAt l c.name with
  | none =>
    by_cases h7 : 6 <= l.length
    ·simp only [if_pos h7]; exact .inl ⟨_, by decide, rfl⟩
    ·simp only [if_neg h7]; exact .inr (.inr (.inl ⟨h0', h1, hl, by omega, rfl⟩))
  | some i => exact .inl ⟨_, by decide, rfl⟩
 rw [if_neg h1];cases hl : dAt l c.name with
 | none => exact .inl ⟨_, by decide, rfl⟩
 | some i =>
   obtain ⟨x, hx, hn, _⟩ := dAt_some hl;simp only [hx];by_cases h5 : c.kind = 5
   ·simp only [if_pos h5]; exact .inr (.inr (.inr (.inl ⟨h0', h5, i, x, hl, hx, hn, rfl⟩)))
   simp only [if_neg h5];by_cases h4 : c.kind = 4
   ·simp only [if_pos h4];by_cases hs : 16 < x.text.size + c.text.size
    ·simp only [if_pos hs]; exact .inl ⟨_, by decide, rfl⟩
    ·simp only [if_neg hs]; exact .inr (.inr (.inr (.inr (.inl ⟨h0', h4, i, x, hl, hx, hn, by omega, rfl⟩))))
   simp only [if_neg h4];by_cases h3 : c.kind = 3
   ·simp only [if_pos h3];cases ht : dAt l c.to_ with
    | none => exact .inr (.inr (.inr (.inr (.inr (.inl ⟨h0', h3, i, x, hl, hx, hn, ht, rfl⟩)))))
    | some k => exact .inl ⟨_, by decide, rfl⟩
   ·simp only [if_neg h3]; exact .inr (.inr (.inr (.inr (.inr (.inr ⟨h0', by omega, i, x, hl, hx, hn, rfl⟩)))))
theorem dAt_erase {l : List FileD} {i : Nat} {n : ByteArray} (h : dAt l n = none) : dAt (l.eraseIdx i) n = none := dAt_none' fun f hf => dAt_none h f ((List.eraseIdx_sublist l i).subset hf)
theorem FWay.ok {l : List FileD} {c : Call} {r : Answer × List FileD} (h : FWay l c r) (hl : FOk l) : FOk r.2 := by
 rcases h with ⟨k, _, rfl⟩ | ⟨_, _, rfl⟩ | ⟨h0, h, hn, hlen, rfl⟩ | ⟨_, _, i, x, hi, hx, e, rfl⟩ | ⟨h0, h, i, x, hi, hx, e, hs, rfl⟩ | ⟨h0, h, i, x, hi, hx, e, ht, rfl⟩ | ⟨h0, h, i, x, hi, hx, e, rfl⟩
 ·exact hl
 ·exact hl
 ·exact hl.insert hlen hn (callCode_name h0 (by omega)) (by show (0 : Nat) <= 16; omega)
 ·exact hl
 ·exact hl.set hx rfl (by show (x.text ++ c.text).size <= 16; rw [ByteArray.size_append]; exact hs)
 ·have hx' := (hl.each x (List.mem_of_getElem? hx)).2;have hlt := (lG hx).1;exact (hl.sublist (List.eraseIdx_sublist l i)).insert (by rw [List.length_eraseIdx_of_lt hlt]; have := hl.len; omega) (dAt_erase ht) (callCode_to h0 h) hx'
 ·exact hl.sublist (List.eraseIdx_sublist l i)
theorem fdo_ok {l : List FileD} (h : FOk l) (c : Call) : FOk (fdo l c).2 := (fdo_way l c).ok h
def readOf (n : ByteArray) : Call := ⟨5, n, noText, noText⟩
theorem callCode_read {n : ByteArray} (h : okText 97 122 5 n = true) : callCode (readOf n) = 0 := by
 unfold callCode readOf;simp [h, noText_toList]
theorem fdo_read {l : List FileD} (h : FOk l) {k : Nat} {x : FileD} (hx : l[k]? = some x) : fdo l (readOf x.name) = (⟨0, x.text⟩, l) := by
 have h1 := (h.each x (List.mem_of_getElem? hx)).1;have h2 := dAt_of h.srt.names hx;unfold fdo;rw [if_neg (by simp [callCode_read h1])];show (if (5 : Int) = 6 then _ else if (5 : Int) = 1 then _ else match dAt l x.name with | none => _ | some i => match l[i]? with | none => _ | some x => if (5 : Int) = 5 then _ else _) = _;rw [if_neg (by decide), if_neg (by decide), h2];simp only [hx];rfl
def mkStr (l : List UInt8) : ByteArray := ⟨l.toArray⟩
theorem mkStr_toList (l : List UInt8) : (mkStr l).toList = l := by rw [ByteArray.toList_eq]; simp [mkStr]
theorem mkStr_of (s : ByteArray) : mkStr s.toList = s := toList_inj (mkStr_toList _)
theorem mkStr_size (l : List UInt8) : (mkStr l).size = l.length := by simp [mkStr, ByteArray.size]
def toByte (n : Int) : UInt8 := UInt8.ofNat n.toNat
theorem toByte_toNat {n : Int} (h : 0 <= n) (h' : n < 256) : ((toByte n).toNat : Int) = n := by
 unfold toByte;have : (UInt8.ofNat n.toNat).toNat = n.toNat % 256 := UInt8.toNat_ofNat';rw [this];omega
theorem toByte_of (b : UInt8) : toByte (b.toNat : Int) = b := by
 unfold toByte;rw [Int.toNat_natCast, UInt8.ofNat_toNat]
def recCode (r : Record) : Int :=
 if r.client < 0 \/ 3 <= r.client \/ r.no < 1 \/ 200 < r.no then 9
 else if ¬ (1 <= r.call.kind /\ r.call.kind <= 4) then 1
 else if callCode r.call ≠ 0 then callCode r.call
 else if r.answer.code < 0 \/ 99 < r.answer.code then 9
 else if r.answer.text.toList.isEmpty = false then 3
 else 0
structure RecOk (r : Record) : Prop where
 client : 0 <= r.client /\ r.client <= 2
 no : 1 <= r.no /\ r.no <= 200
 kind : 1 <= r.call.kind /\ r.call.kind <= 4
 call : callCode r.call = 0
 code : 0 <= r.answer.code /\ r.answer.code <= 99
 text : r.answer.text = noText
theorem recCode_ok {r : Record} (h : recCode r = 0) : RecOk r := by
 unfold recCode at h;by_cases h1 : r.client < 0 \/ 3 <= r.client \/ r.no < 1 \/ 200 < r.no
 ·rw [if_pos h1] at h; cases h
 rw [if_neg h1] at h;by_cases h2 : ¬ (1 <= r.call.kind /\ r.call.kind <= 4)
 ·rw [if_pos h2] at h; cases h
 rw [if_neg h2] at h;by_cases h3 : callCode r.call ≠ 0
 ·rw [if_pos h3] at h; exact (h3 h).elim
 rw [if_neg h3] at h;by_cases h4 : r.answer.code < 0 \/ 99 < r.answer.code
 ·rw [if_pos h4] at h; cases h
 rw [if_neg h4] at h;by_cases h5 : r.answer.text.toList.isEmpty = false
 ·rw [if_pos h5] at h; cases h
 exact ⟨by omega, by omega, by omega, by simpa using h3, by omega, empty_of (by simpa using h5)⟩
theorem recCode_of {r : Record} (h : RecOk r) : recCode r = 0 := by
 unfold recCode;have h1 := h.client;have h2 := h.no;have h3 := h.code;rw [if_neg (by omega), if_neg (by simpa using h.kind), if_neg (by simp [h.call]), if_neg (by omega), if_neg (by rw [h.text, noText_toList]; simp)]
theorem recCode_size {r : Record} (h : RecOk r) : r.call.name.size <= 5 /\ r.call.to_.size <= 5 /\ r.call.text.size <= 8 := by
 have hk := h.kind;have hn := callCode_name h.call (by omega);have hf := callCode_form h.call
 have sz : ∀ {lo hi m : Nat} {s : ByteArray}, okText lo hi m s = true -> s.size <= m := fun {lo hi m s} h => by
  unfold okText at h;simp at h;exact h.2.2
 refine ⟨sz hn, ?_, ?_⟩
 ·by_cases h3 : r.call.kind = 3
  ·exact sz (callCode_to h.call h3)
  ·rw [hf.2.1 h3]; decide
 ·by_cases h4 : r.call.kind = 4
  ·exact sz (callCode_text h.call h4)
  ·rw [hf.2.2 h4]; decide
def strBytes (s : ByteArray) : List UInt8 := toByte s.size :: s.toList
def recBody (r : Record) : List UInt8 := [toByte r.client, toByte r.no, toByte r.call.kind, toByte r.answer.code] ++ (strBytes r.call.name ++ (strBytes r.call.to_ ++ strBytes r.call.text))
def recBytes (r : Record) : List UInt8 := toByte (((recBody r).length : Int) + 1) :: recBody r
theorem length_strBytes (s : ByteArray) : (strBytes s).length = s.size + 1 := by simp [strBytes, length_toList']
theorem length_recBody (r : Record) : (recBody r).length = 7 + r.call.name.size + r.call.to_.size + r.call.text.size := by simp [recBody, length_strBytes]; omega
theorem length_recBytes (r : Record) : (recBytes r).length = 8 + r.call.name.size + r.call.to_.size + r.call.text.size := by simp [recBytes, length_recBody]; omega
theorem recBytes_bounds {r : Record} (h : RecOk r) : 8 <= (recBytes r).length /\ (recBytes r).length <= 26 := by
 have := recCode_size h; rw [length_recBytes]; omega
def parseStr : List UInt8 -> Option (ByteArray × List UInt8)
 | [] => none
 | k :: rest => if rest.length < k.toNat then none else some (mkStr (rest.take k.toNat), rest.drop k.toNat)
theorem parseStr_str {s : ByteArray} (hs : s.size < 256) (b : List UInt8) : parseStr (strBytes s ++ b) = some (s, b) := by
 have h1 := toByte_toNat (n := s.size) (by omega) (by omega)
 have h2 : (toByte (s.size : Int)).toNat = s.size := by omega
 have hl := length_toList' s;show (if (s.toList ++ b).length < (toByte (s.size : Int)).toNat then none else some (mkStr ((s.toList ++ b).take (toByte (s.size : Int)).toNat), (s.toList ++ b).drop (toByte (s.size : Int)).toNat)) = _;rw [h2, if_neg (by simp [hl]), <- hl, List.take_left, List.drop_left, mkStr_of]
theorem parseStr_some {b rest : List UInt8} {s : ByteArray} (h : parseStr b = some (s, rest)) : b = strBytes s ++ rest /\ s.size < 256 := by
 cases b with
 | nil => cases h
 | cons k b =>
   rw [show parseStr (k :: b) = if b.length < k.toNat then none else some (mkStr (b.take k.toNat), b.drop k.toNat) from rfl] at h;split at h
   ·cases h
   ·rename_i hlt;injection h with h;injection h with h1 h2;subst h1; subst h2;have hsz : (mkStr (b.take k.toNat)).size = k.toNat := by rw [mkStr_size, List.length_take]; omega
    refine ⟨?_, by rw [hsz]; exact k.toNat_lt⟩;unfold strBytes;rw [hsz, toByte_of, mkStr_toList, List.cons_append, List.take_append_drop]
def parse3 (b : List UInt8) : Option (ByteArray × ByteArray × ByteArray) :=
 match parseStr b with
 | none => none
 | some (x, b1) => match parseStr b1 with
   | none => none
   | some (y, b2) => match parseStr b2 with
     | none => none
     | some (z, b3) => if b3 = [] then some (x, y, z) else none
theorem parse3_some {b : List UInt8} {x y z : ByteArray} (h : parse3 b = some (x, y, z)) : b = strBytes x ++ (strBytes y ++ strBytes z) /\ x.size < 256 /\ y.size < 256 /\ z.size < 256 := by
 unfold parse3 at h;cases h1 : parseStr b with
 | none => rw [h1] at h; cases h
 | some p =>
   obtain ⟨x', b1⟩ := p;rw [h1] at h;simp only at h;cases h2 : parseStr b1 with
   | none => rw [h2] at h; cases h
   | some p =>
     obtain ⟨y', b2⟩ := p;rw [h2] at h;simp only at h;cases h3 : parseStr b2 with
     | none => rw [h3] at h; cases h
     | some p =>
       obtain ⟨z', b3⟩ := p;rw [h3] at h;simp only at h;split at h
       ·rename_i hb;injection h with h;injection h with e1 h;injection h with e2 e3;subst e1; subst e2; subst e3; subst hb;obtain ⟨g1, s1⟩ := parseStr_some h1;obtain ⟨g2, s2⟩ := parseStr_some h2;obtain ⟨g3, s3⟩ := parseStr_some h3;rw [g1, g2, g3, List.append_nil];exact ⟨rfl, s1, s2, s3⟩
       ·cases h
theorem parse3_str {x y z : ByteArray} (hx : x.size < 256) (hy : y.size < 256) (hz : z.size < 256) : parse3 (strBytes x ++ (strBytes y ++ strBytes z)) = some (x, y, z) := by
 unfold parse3;rw [parseStr_str hx];simp only;rw [parseStr_str hy];simp only;have := parseStr_str hz [];rw [List.append_nil] at this;rw [this];simp
def recOf (b : List UInt8) (s : ByteArray × ByteArray × ByteArray) : Record := ⟨((b.getD 1 0).toNat : Int), ((b.getD 2 0).toNat : Int), ⟨((b.getD 3 0).toNat : Int), s.1, s.2.1, s.2.2⟩, ⟨((b.getD 4 0).toNat : Int), noText⟩⟩
def decode (b : List UInt8) : Record × Int × Int :=
 if b = [] \/ b.length < (b.getD 0 0).toNat then (Record.zero, 0, 8)
 else if (b.getD 0 0).toNat < 5 then (Record.zero, 0, 3)
 else match parse3 ((b.take (b.getD 0 0).toNat).drop 5) with
  | none => (Record.zero, 0, 3)
  | some s => if recCode (recOf b s) ≠ 0 then (Record.zero, 0, recCode (recOf b s)) else (recOf b s, ((b.getD 0 0).toNat : Int), 0)
theorem decode_bytes {r : Record} (h : RecOk r) (b : List UInt8) : decode (recBytes r ++ b) = (r, ((recBytes r).length : Int), 0) := by
 obtain ⟨h1, h2⟩ := recBytes_bounds h;have hz := recCode_size h
 have hlen : ((toByte (((recBody r).length : Int) + 1)).toNat : Int) = (recBytes r).length := by
  rw [toByte_toNat (by omega) (by rw [length_recBody]; omega)]; simp [recBytes]
 have hn : ((recBytes r ++ b).getD 0 0).toNat = (recBytes r).length := by
  show (toByte (((recBody r).length : Int) + 1)).toNat = _; omega
 have hrec : recOf (recBytes r ++ b) (r.call.name, r.call.to_, r.call.text) = r := by
  have c1 := h.client; have c2 := h.no; have c3 := h.kind; have c4 := h.code;show (⟨((toByte r.client).toNat : Int), ((toByte r.no).toNat : Int), ⟨((toByte r.call.kind).toNat : Int), r.call.name, r.call.to_, r.call.text⟩, ⟨((toByte r.answer.code).toNat : Int), noText⟩⟩ : Record) = r;rw [toByte_toNat c1.1 (by omega), toByte_toNat (by omega) (by omega), toByte_toNat (by omega) (by omega), toByte_toNat c4.1 (by omega), <- h.text]
 unfold decode;rw [if_neg (by rw [hn]; simp [recBytes]), if_neg (by rw [hn]; omega), hn, List.take_left];have hdrop : (recBytes r).drop 5 = strBytes r.call.name ++ (strBytes r.call.to_ ++ strBytes r.call.text) := rfl;rw [hdrop, parse3_str (by omega) (by omega) (by omega)];simp only;rw [hrec, recCode_of h, if_neg (by simp)]
theorem decode_zero {b : List UInt8} (h : (decode b).2.2 = 0) : RecOk (decode b).1 /\ ∃ rest, b = recBytes (decode b).1 ++ rest /\ (decode b).2.1 = ((recBytes (decode b).1).length : Int) := by
 unfold decode at h ⊢;by_cases h1 : b = [] \/ b.length < (b.getD 0 0).toNat
 ·rw [if_pos h1] at h; cases h
 rw [if_neg h1] at h ⊢;by_cases h2 : (b.getD 0 0).toNat < 5
 ·rw [if_pos h2] at h; cases h
 rw [if_neg h2] at h ⊢;cases hp : parse3 ((b.take (b.getD 0 0).toNat).drop 5) with
 | none => rw [hp] at h; cases h
 | some s =>
   rw [hp] at h;simp only at h ⊢;by_cases h3 : recCode (recOf b s) ≠ 0
   ·rw [if_pos h3] at h; exact (h3 h).elim
   rw [if_neg h3];have hok := recCode_ok (by simpa using h3);refine ⟨hok, ?_⟩;obtain ⟨x, y, z⟩ := s;obtain ⟨hb, sx, sy, sz⟩ := parse3_some hp;have hlen := congrArg List.length hb;rw [List.length_drop, List.length_take, List.length_append, List.length_append, length_strBytes, length_strBytes, length_strBytes] at hlen;match b, h1, h2, hb, hlen with
   | [], h1, _, _, _ => exact (h1 (.inl rfl)).elim
   | [n], h1, h2, _, _ => simp at h1 h2; omega
   | [n, _], h1, h2, _, _ => simp at h1 h2; omega
   | [n, _, _], h1, h2, _, _ => simp at h1 h2; omega
   | [n, _, _, _], h1, h2, _, _ => simp at h1 h2; omega
   | n :: b1 :: b2 :: b3 :: b4 :: t, h1, h2, hb, hlen =>
     have hn : (([n, b1, b2, b3, b4] ++ t).getD 0 0) = n := rfl;simp only [List.getD_cons_zero, List.length_cons] at h1 h2 hlen hb ⊢
     have hle : n.toNat <= t.length + 5 := by
      have : ¬ t.length + 1 + 1 + 1 + 1 + 1 < n.toNat := fun e => h1 (.inr e);omega
     obtain ⟨m, hm⟩ : ∃ m, n.toNat = m + 5 := ⟨n.toNat - 5, by omega⟩
     rw [hm] at hb hlen;have hb' : t.take m = strBytes x ++ (strBytes y ++ strBytes z) := hb
     have hbytes : recBytes (recOf (n :: b1 :: b2 :: b3 :: b4 :: t) (x, y, z)) = n :: b1 :: b2 :: b3 :: b4 :: t.take m := by
      have hbody : recBody (recOf (n :: b1 :: b2 :: b3 :: b4 :: t) (x, y, z)) = b1 :: b2 :: b3 :: b4 :: t.take m := by
       rw [hb'];show [toByte (b1.toNat : Int), toByte (b2.toNat : Int), toByte (b3.toNat : Int), toByte (b4.toNat : Int)] ++ (strBytes x ++ (strBytes y ++ strBytes z)) = _;simp only [toByte_of];rfl
      unfold recBytes;rw [hbody];congr 1
      have : (((b1 :: b2 :: b3 :: b4 :: t.take m).length : Int) + 1) = (n.toNat : Int) := by
       simp only [List.length_cons, List.length_take]; omega
      rw [this, toByte_of]
     refine ⟨t.drop m, ?_, ?_⟩
     ·rw [hbytes]; simp [List.take_append_drop]
     ·rw [hbytes]; simp only [List.length_cons, List.length_take]; omega
theorem decode_short {r : Record} (h : RecOk r) (k : Nat) (hk : k < (recBytes r).length) : (decode ((recBytes r).take k)).2.2 = 8 := by
 have hz := recCode_size h;unfold decode;rw [if_pos];cases k with
 | zero => exact .inl rfl
 | succ k =>
   right
   have hlen : ((toByte (((recBody r).length : Int) + 1)).toNat : Int) = (recBytes r).length := by
    rw [toByte_toNat (by omega) (by rw [length_recBody]; omega)]; simp [recBytes]
   have : (((recBytes r).take (k + 1)).getD 0 0).toNat = (recBytes r).length := by
    show (toByte (((recBody r).length : Int) + 1)).toNat = _; omega
   rw [this, List.length_take];omega
def logBytes (l : List Record) : List UInt8 := l.flatMap recBytes
theorem logBytes_append (l r : List Record) : logBytes (l ++ r) = logBytes l ++ logBytes r := by simp [logBytes]
theorem logBytes_one (r : Record) : logBytes [r] = recBytes r := by simp [logBytes]
theorem logBytes_cons (r : Record) (l : List Record) : logBytes (r :: l) = recBytes r ++ logBytes l := by simp [logBytes]
structure IsAll (b : List UInt8) (l : List Record) : Prop where
 ok : ∀ r ∈ l, RecOk r
 rest : ∃ rest, b = logBytes l ++ rest /\ (decode rest).2.2 ≠ 0
theorem IsAll.eq {b : List UInt8} {l r : List Record} (hl : IsAll b l) (hr : IsAll b r) : l = r := by
 obtain ⟨bl, e1, n1⟩ := hl.rest;obtain ⟨br, e2, n2⟩ := hr.rest;have ho1 := hl.ok;have ho2 := hr.ok;clear hl hr;induction l generalizing b r with
 | nil =>
   cases r with
   | nil => rfl
   | cons x r =>
     rw [logBytes_cons, List.append_assoc] at e2;have h := decode_bytes (ho2 x (by simp)) (logBytes r ++ br);rw [<- e2, e1] at h;simp only [logBytes, List.flatMap_nil, List.nil_append] at h;rw [h] at n1;exact (n1 rfl).elim
 | cons y l ih =>
   rw [logBytes_cons, List.append_assoc] at e1;have h := decode_bytes (ho1 y (by simp)) (logBytes l ++ bl);rw [<- e1] at h;cases r with
   | nil =>
     simp only [logBytes, List.flatMap_nil, List.nil_append] at e2;rw [e2] at h;rw [h] at n2;exact (n2 rfl).elim
   | cons x r =>
     rw [logBytes_cons, List.append_assoc] at e2;have h' := decode_bytes (ho2 x (by simp)) (logBytes r ++ br);rw [<- e2, h] at h';injection h' with h';subst h';rw [e1] at e2;have e3 := List.append_cancel_left e2;rw [ih (b := logBytes l ++ bl) (r := r) rfl e3 (fun r hr => ho1 r (List.mem_cons_of_mem _ hr)) (fun r hr => ho2 r (List.mem_cons_of_mem _ hr))]
def recAllF : Nat -> List UInt8 -> List Record
 | 0, _ => []
 | n + 1, b => if (decode b).2.2 = 0 then (decode b).1 :: recAllF n (b.drop (recBytes (decode b).1).length) else []
def recAll (b : List UInt8) : List Record := recAllF (b.length + 1) b
theorem recAllF_is (n : Nat) (b : List UInt8) (h : b.length < n) : IsAll b (recAllF n b) := by
 induction n generalizing b with
 | zero => omega
 | succ n ih =>
   unfold recAllF;by_cases h0 : (decode b).2.2 = 0
   ·rw [if_pos h0];obtain ⟨hok, rest, e, _⟩ := decode_zero h0;have hb := recBytes_bounds hok;have hl := congrArg List.length e;rw [List.length_append] at hl;have hd : b.drop (recBytes (decode b).1).length = rest := (take_len e.symm).2;rw [hd];obtain ⟨ho, rest', e', n'⟩ := ih rest (by omega);refine ⟨fun r hr => ?_, rest', ?_, n'⟩
    ·rcases List.mem_cons.1 hr with rfl | hr
     ·exact hok
     ·exact ho r hr
    ·conv => lhs; rw [e, e']
     rw [logBytes_cons, List.append_assoc]
   ·rw [if_neg h0];exact ⟨fun r hr => by simp at hr, b, by simp [logBytes], h0⟩
theorem recAll_is (b : List UInt8) : IsAll b (recAll b) := recAllF_is _ _ (by omega)
theorem recAll_of {b : List UInt8} {l : List Record} (h : IsAll b l) : recAll b = l := (recAll_is b).eq h
theorem decode_nil : (decode []).2.2 ≠ 0 := by
 have : (decode []).2.2 = 8 := rfl;rw [this]; decide
theorem recAll_log {l : List Record} (h : ∀ r ∈ l, RecOk r) : recAll (logBytes l) = l := recAll_of ⟨h, [], by simp, decode_nil⟩
theorem recAll_cut {l : List Record} (h : ∀ r ∈ l, RecOk r) (k n : Nat) (hn : n <= l.length) (h1 : (logBytes (l.take n)).length <= k) (h2 : n < l.length -> k < (logBytes (l.take (n + 1))).length) (_hk : k <= (logBytes l).length) : recAll ((logBytes l).take k) = l.take n := by
 refine recAll_of ⟨fun r hr => h r (List.mem_of_mem_take hr), ((logBytes l).take k).drop (logBytes (l.take n)).length, ?_, ?_⟩
 ·conv => lhs; rw [<- List.take_append_drop (logBytes (l.take n)).length ((logBytes l).take k)]
  congr 1
  rw [List.take_take, Nat.min_eq_left h1];exact (take_len (show logBytes (l.take n) ++ logBytes (l.drop n) = logBytes l by rw [<- logBytes_append, List.take_append_drop])).1
 ·have hd : ((logBytes l).take k).drop (logBytes (l.take n)).length = (logBytes (l.drop n)).take (k - (logBytes (l.take n)).length) := by
   rw [List.drop_take, (take_len (show logBytes (l.take n) ++ logBytes (l.drop n) = logBytes l by rw [<- logBytes_append, List.take_append_drop])).2]
  rw [hd];by_cases hlt : n < l.length
  ·have hd2 : l.drop n = l[n] :: l.drop (n + 1) := List.drop_eq_getElem_cons hlt;have hr : RecOk l[n] := h _ (by simp);have h3 := h2 hlt;rw [List.take_succ_eq_append_getElem hlt, logBytes_append, logBytes_one, List.length_append] at h3;rw [hd2, logBytes_cons, List.take_append_of_le_length (by omega), decode_short hr _ (by omega)];decide
  ·rw [List.drop_of_length_le (by omega)];simp [logBytes];exact decode_nil
def others (c : Call) (f : FileD) : Bool := decide (f.name ≠ c.name) && decide (f.name ≠ c.to_)
theorem fdo_same {l : List FileD} {c : Call} (h : (fdo l c).1.code ≠ 0 \/ ¬ (1 <= c.kind /\ c.kind <= 4)) : (fdo l c).2 = l := by
 have hw := fdo_way l c;generalize fdo l c = r at hw h;rcases hw with ⟨k, _, rfl⟩ | ⟨_, _, rfl⟩ | ⟨h0, hk, hn, hlen, rfl⟩ | ⟨_, _, i, x, hi, hx, e, rfl⟩ | ⟨h0, hk, i, x, hi, hx, e, hs, rfl⟩ | ⟨h0, hk, i, x, hi, hx, e, ht, rfl⟩ | ⟨h0, hk, i, x, hi, hx, e, rfl⟩
 ·rfl
 ·rfl
 ·rcases h with h | h
  ·exact (h rfl).elim
  ·omega
 ·rfl
 ·rcases h with h | h
  ·exact (h rfl).elim
  ·omega
 ·rcases h with h | h
  ·exact (h rfl).elim
  ·omega
 ·rcases h with h | h
  ·exact (h rfl).elim
  ·omega
def fbehind (L : List Record) : List FileD := L.foldl (fun l r => (fdo l r.call).2) []
def dbehind (L : List Record) : List FileD := L.foldl (fun l r => (ddo l r.call).2) []
theorem srt_foldl {l d : List FileD} (h : Srt l d) (L : List Record) : Srt (L.foldl (fun l r => (fdo l r.call).2) l) (L.foldl (fun l r => (ddo l r.call).2) d) := by
 induction L generalizing l d with
 | nil => exact h
 | cons r L ih => exact ih (fdo_ddo h r.call).2
theorem behind_srt (L : List Record) : Srt (fbehind L) (dbehind L) := srt_foldl ⟨List.Pairwise.nil, .refl _⟩ L
theorem fok_foldl {l : List FileD} (h : FOk l) (L : List Record) : FOk (L.foldl (fun l r => (fdo l r.call).2) l) := by
 induction L generalizing l with
 | nil => exact h
 | cons r L ih => exact ih (fdo_ok h r.call)
theorem fbehind_ok (L : List Record) : FOk (fbehind L) := fok_foldl FOk.nil L
theorem fbehind_append (L : List Record) (r : Record) : fbehind (L ++ [r]) = (fdo (fbehind L) r.call).2 := by simp [fbehind]
theorem dbehind_append (L : List Record) (r : Record) : dbehind (L ++ [r]) = (ddo (dbehind L) r.call).2 := by simp [dbehind]
theorem fbehind_take {L : List Record} {k : Nat} {r : Record} (h : L[k]? = some r) : fbehind (L.take (k + 1)) = (fdo (fbehind (L.take k)) r.call).2 := by
 rw [<- fbehind_append]; congr 1; rw [List.take_add_one, h]; rfl
theorem dbehind_take {L : List Record} {k : Nat} {r : Record} (h : L[k]? = some r) : dbehind (L.take (k + 1)) = (ddo (dbehind (L.take k)) r.call).2 := by
 rw [<- dbehind_append]; congr 1; rw [List.take_add_one, h]; rfl
theorem snoc_ind {α : Type} {P : List α -> Prop} (h0 : P []) (h1 : ∀ l x, P l -> P (l ++ [x])) (l : List α) : P l := by
 have h : ∀ r : List α, P r.reverse := fun r => by
  induction r with
  | nil => exact h0
  | cons x r ih => rw [List.reverse_cons]; exact h1 _ _ ih
 rw [<- List.reverse_reverse l];exact h _
def lastOf (L : List Record) (client : Int) : Option Record := L.reverse.find? fun r => decide (r.client = client)
theorem lastOf_append (L : List Record) (r : Record) (client : Int) : lastOf (L ++ [r]) client = if r.client = client then some r else lastOf L client := by
 unfold lastOf;rw [List.reverse_append, List.reverse_singleton, List.singleton_append, List.find?_cons];by_cases h : r.client = client <;> simp [h]
theorem lastOf_mem {L : List Record} {client : Int} {r : Record} (h : lastOf L client = some r) : r ∈ L /\ r.client = client := by
 unfold lastOf at h;exact ⟨by simpa using List.mem_of_find?_eq_some h, by simpa using List.find?_some h⟩
def lastRec (L : List Record) (client : Int) : Record := match lastOf L client with | some r => r | none => Record.zero
def chestNew (L : List Record) (client no : Int) (c : Call) : (Answer × Int × Int) × List Record :=
 if 2000 < (logBytes L).length + (recBytes ⟨client, no, c, Answer.zero⟩).length then ((Answer.zero, 0, 7), L)
 else (((fdo (fbehind L) c).1, ((recBytes ⟨client, no, c, Answer.zero⟩).length : Int), 0), L ++ [⟨client, no, c, (fdo (fbehind L) c).1⟩])
def chestCall (L : List Record) (client no : Int) (c : Call) : (Answer × Int × Int) × List Record :=
 if client < 0 \/ 3 <= client \/ no < 1 \/ 200 < no then ((Answer.zero, 0, 9), L)
 else if callCode c ≠ 0 then ((Answer.zero, 0, callCode c), L)
 else if ¬ (1 <= c.kind /\ c.kind <= 4) then (((fdo (fbehind L) c).1, 0, 0), L)
 else match lastOf L client with
  | some x => if no = x.no /\ c = x.call then ((x.answer, 0, 0), L) else if no <= x.no then ((Answer.zero, 0, 10), L) else chestNew L client no c
  | none => chestNew L client no c
def chestTear (L : List Record) (client no : Int) (c : Call) (keep : Int) : Int × List Record :=
 ((chestCall L client no c).1.2.2, if (chestCall L client no c).1.2.2 = 0 /\ 0 < (chestCall L client no c).1.2.1 /\ keep < (chestCall L client no c).1.2.1 then L else (chestCall L client no c).2)
structure LogOk (L : List Record) : Prop where
 each : ∀ r ∈ L, RecOk r
 len : (logBytes L).length <= 2000
 serial : ∀ (k : Nat) r, L[k]? = some r -> r.answer = (fdo (fbehind (L.take k)) r.call).1
 rising : L.Pairwise fun a b => a.client = b.client -> a.no < b.no
theorem LogOk.nil : LogOk [] := ⟨fun r h => by simp at h, by simp [logBytes], fun k r h => by simp at h, List.Pairwise.nil⟩
theorem lastOf_ge' {L : List Record} : (L.Pairwise fun a b : Record => a.client = b.client -> a.no < b.no) -> ∀ {client : Int} {x : Record}, lastOf L client = some x -> ∀ r ∈ L, r.client = client -> r.no <= x.no := by
 refine snoc_ind (P := fun L => (L.Pairwise fun a b : Record => a.client = b.client -> a.no < b.no) -> ∀ {client : Int} {x : Record}, lastOf L client = some x -> ∀ r ∈ L, r.client = client -> r.no <= x.no) (fun _ _ _ _ r hr => by simp at hr) (fun L y ih hr client x hx r hm hc => ?_) L;rw [List.pairwise_append] at hr;rw [lastOf_append] at hx;rcases List.mem_append.1 hm with hm | hm
 ·split at hx
  ·injection hx with hx;subst hx;exact Int.le_of_lt (hr.2.2 r hm y (by simp) (by omega))
  ·exact ih hr.1 hx r hm hc
 ·have : r = y := by simpa using hm
  subst this;rw [if_pos hc] at hx;injection hx with hx;rw [hx];exact Int.le_refl _
theorem lastOf_ge {L : List Record} (h : LogOk L) {client : Int} {x : Record} (hx : lastOf L client = some x) : ∀ r ∈ L, r.client = client -> r.no <= x.no := lastOf_ge' h.rising hx
theorem lastOf_none {L : List Record} {client : Int} (h : lastOf L client = none) : ∀ r ∈ L, r.client ≠ client := fun r hr => by
 unfold lastOf at h;have := List.find?_eq_none.1 h r (by simpa using hr);simpa using this
structure CallOk (client no : Int) (c : Call) : Prop where
 client : 0 <= client /\ client <= 2
 no : 1 <= no /\ no <= 200
 call : callCode c = 0
def CWay (L : List Record) (client no : Int) (c : Call) (r : (Answer × Int × Int) × List Record) : Prop :=
 (∃ k : Int, k ≠ 0 /\ r = ((Answer.zero, 0, k), L)) \/
 (CallOk client no c /\ ¬ (1 <= c.kind /\ c.kind <= 4) /\ r = (((fdo (fbehind L) c).1, 0, 0), L)) \/
 (CallOk client no c /\ (1 <= c.kind /\ c.kind <= 4) /\ ∃ x, lastOf L client = some x /\ no = x.no /\ c = x.call /\ r = ((x.answer, 0, 0), L)) \/
 (CallOk client no c /\ (1 <= c.kind /\ c.kind <= 4) /\ (∀ x, lastOf L client = some x -> x.no < no) /\ (logBytes L).length + (recBytes ⟨client, no, c, Answer.zero⟩).length <= 2000 /\
  r = (((fdo (fbehind L) c).1, ((recBytes ⟨client, no, c, Answer.zero⟩).length : Int), 0), L ++ [⟨client, no, c, (fdo (fbehind L) c).1⟩]))
theorem chest_way (L : List Record) (client no : Int) (c : Call) : CWay L client no c (chestCall L client no c) := by
 unfold chestCall;by_cases h1 : client < 0 \/ 3 <= client \/ no < 1 \/ 200 < no
 ·rw [if_pos h1]; exact .inl ⟨_, by decide, rfl⟩
 rw [if_neg h1];by_cases h2 : callCode c ≠ 0
 ·rw [if_pos h2]; exact .inl ⟨_, h2, rfl⟩
 rw [if_neg h2];have hok : CallOk client no c := ⟨by omega, by omega, by simpa using h2⟩
 by_cases h3 : ¬ (1 <= c.kind /\ c.kind <= 4)
 ·rw [if_pos h3]; exact .inr (.inl ⟨hok, h3, rfl⟩)
 rw [if_neg h3];have h3' : 1 <= c.kind /\ c.kind <= 4 := by simpa using h3
 have hnew : (∀ x, lastOf L client = some x -> x.no < no) -> CWay L client no c (chestNew L client no c) := fun hl => by
  unfold chestNew;by_cases hs : 2000 < (logBytes L).length + (recBytes ⟨client, no, c, Answer.zero⟩).length
  ·rw [if_pos hs]; exact .inl ⟨_, by decide, rfl⟩
  ·rw [if_neg hs]; exact .inr (.inr (.inr ⟨hok, h3', hl, by omega, rfl⟩))
 cases hl : lastOf L client with
 | none => exact hnew fun x hx => by rw [hl] at hx; cases hx
 | some x =>
   simp only;by_cases he : no = x.no /\ c = x.call
   ·rw [if_pos he]; exact .inr (.inr (.inl ⟨hok, h3', x, hl, he.1, he.2, rfl⟩))
   rw [if_neg he];by_cases hle : no <= x.no
   ·rw [if_pos hle]; exact .inl ⟨_, by decide, rfl⟩
   ·rw [if_neg hle];exact hnew fun y hy => by rw [hl] at hy; injection hy with hy; subst hy; omega
theorem ans0 : 0 <= (0 : Int) /\ (0 : Int) <= 99 := by decide
theorem fdo_answer {l : List FileD} {c : Call} (hc : 1 <= c.kind /\ c.kind <= 4) : (0 <= (fdo l c).1.code /\ (fdo l c).1.code <= 99) /\ (fdo l c).1.text = noText := by
 have hw := fdo_way l c;generalize fdo l c = r at hw;rcases hw with ⟨k, hk, rfl⟩ | ⟨_, hk, rfl⟩ | ⟨h0, hk, hn, hlen, rfl⟩ | ⟨_, hk, i, x, hi, hx, e, rfl⟩ | ⟨h0, hk, i, x, hi, hx, e, hs, rfl⟩ | ⟨h0, hk, i, x, hi, hx, e, ht, rfl⟩ | ⟨h0, hk, i, x, hi, hx, e, rfl⟩
 ·exact ⟨⟨by show 0 <= k; omega, hk.2⟩, rfl⟩
 ·omega
 ·exact ⟨ans0, rfl⟩
 ·omega
 all_goals exact ⟨ans0, rfl⟩
theorem new_ok {L : List Record} {client no : Int} {c : Call} (h : CallOk client no c) (hk : 1 <= c.kind /\ c.kind <= 4) : RecOk ⟨client, no, c, (fdo (fbehind L) c).1⟩ :=
 ⟨h.client, h.no, hk, h.call, (fdo_answer hk).1, (fdo_answer hk).2⟩
theorem zero_ok {client no : Int} {c : Call} (h : CallOk client no c) (hk : 1 <= c.kind /\ c.kind <= 4) : RecOk ⟨client, no, c, Answer.zero⟩ := ⟨h.client, h.no, hk, h.call, ans0, rfl⟩
theorem length_new (L : List Record) (client no : Int) (c : Call) (a : Answer) : (logBytes (L ++ [⟨client, no, c, a⟩])).length = (logBytes L).length + (recBytes ⟨client, no, c, Answer.zero⟩).length := by
 rw [logBytes_append, logBytes_one, List.length_append, length_recBytes, length_recBytes]
theorem CWay.ok {L : List Record} {client no : Int} {c : Call} {r : (Answer × Int × Int) × List Record} (h : CWay L client no c r) (hL : LogOk L) : LogOk r.2 := by
 rcases h with ⟨k, hk, rfl⟩ | ⟨_, _, rfl⟩ | ⟨_, _, x, _, _, _, rfl⟩ | ⟨hc, hk, hl, hs, rfl⟩
 ·exact hL
 ·exact hL
 ·exact hL
 ·refine ⟨fun r hr => ?_, by rw [length_new]; exact hs, fun k r hkr => ?_, ?_⟩
  ·rcases List.mem_append.1 hr with hr | hr
   ·exact hL.each r hr
   ·rw [List.mem_singleton.1 hr]; exact new_ok hc hk
  ·have hkr' : (L ++ [(⟨client, no, c, (fdo (fbehind L) c).1⟩ : Record)])[k]? = some r := hkr;have hlt := (lG hkr').1;rw [List.length_append, List.length_singleton] at hlt;show r.answer = (fdo (fbehind ((L ++ [(⟨client, no, c, (fdo (fbehind L) c).1⟩ : Record)]).take k)) r.call).1;rw [List.take_append_of_le_length (by omega)];rw [List.getElem?_append] at hkr';split at hkr'
   ·exact hL.serial k r hkr'
   ·have hk0 : k = L.length := by omega
    subst hk0;simp at hkr';subst hkr';rw [List.take_length]
  ·show (L ++ [(⟨client, no, c, (fdo (fbehind L) c).1⟩ : Record)]).Pairwise _;rw [List.pairwise_append];refine ⟨hL.rising, by simp, fun a ha b hb => ?_⟩;rw [List.mem_singleton.1 hb];intro hab;cases hx : lastOf L client with
   | none => exact absurd hab (lastOf_none hx a ha)
   | some x =>
     have h1 := lastOf_ge hL hx a ha hab;have h2 := hl x hx;show a.no < no;omega
theorem chestCall_ok {L : List Record} (h : LogOk L) (client no : Int) (c : Call) : LogOk (chestCall L client no c).2 := (chest_way L client no c).ok h
theorem chestTear_ok {L : List Record} (h : LogOk L) (client no : Int) (c : Call) (keep : Int) : LogOk (chestTear L client no c keep).2 := by
 unfold chestTear;show LogOk (if _ then L else (chestCall L client no c).2);split
 ·exact h
 ·exact chestCall_ok h client no c
theorem log_torn {L : List Record} (h : ∀ r ∈ L, RecOk r) {r : Record} (hr : RecOk r) (k : Nat) (hk : k < (recBytes r).length) : recAll ((logBytes (L ++ [r])).take ((logBytes L).length + k)) = L := by
 have h1 := recAll_cut (l := L ++ [r]) (fun q hq => by rcases List.mem_append.1 hq with hq | hq; exact h q hq; rw [List.mem_singleton.1 hq]; exact hr) ((logBytes L).length + k) L.length (by simp)
  (by rw [List.take_left]; omega) (fun _ => by rw [List.take_of_length_le (by simp), logBytes_append, logBytes_one, List.length_append]; omega) (by rw [logBytes_append, logBytes_one, List.length_append]; omega)
 rwa [List.take_left] at h1
structure Guest where
 me : Int
 no : Int
 call : Call
 isOpen : Bool
 done : List Record
def gNew (me : Int) : Guest := ⟨me, 0, Call.zero, false, []⟩
def gAsk (g : Guest) (c : Call) : Int × Guest :=
 if callCode c ≠ 0 then (callCode c, g)
 else if g.isOpen = true then (11, g)
 else if 200 <= g.no then (7, g)
 else (0, { g with no := g.no + 1, call := c, isOpen := true })
def gSend (g : Guest) : Packet × Bool := if g.isOpen = true then (⟨false, g.me, g.no, g.call, Answer.zero⟩, true) else (Packet.zero, false)
def gHears (g : Guest) (p : Packet) : Prop := g.isOpen = true /\ p.reply = true /\ p.client = g.me /\ p.no = g.no /\ p.call = g.call
instance (g : Guest) (p : Packet) : Decidable (gHears g p) := by unfold gHears; infer_instance
def gRec (g : Guest) (a : Answer) : Record := ⟨g.me, g.no, g.call, a⟩
def gHear (g : Guest) (p : Packet) : Bool × Guest :=
 if gHears g p then (true, { g with done := g.done ++ [gRec g p.answer], isOpen := false }) else (false, g)
structure GuestOk (m : Int) (g : Guest) : Prop where
 me : g.me = m
 no : g.no = g.done.length + (if g.isOpen = true then 1 else 0)
 nums : ∀ (k : Nat) r, g.done[k]? = some r -> r.client = m /\ r.no = k + 1
 le : g.no <= 200
theorem gNew_ok (me : Int) : GuestOk me (gNew me) := ⟨rfl, by simp [gNew], fun k r h => by simp [gNew] at h, by simp [gNew]⟩
theorem gAsk_ok {me : Int} {g : Guest} (h : GuestOk me g) (c : Call) : GuestOk me (gAsk g c).2 := by
 unfold gAsk;split
 ·exact h
 split
 ·exact h
 rename_i ho;split
 ·exact h
 refine ⟨h.me, ?_, h.nums, ?_⟩
 ·have := h.no; simp [ho] at this ⊢; exact this
 ·show g.no + 1 <= 200; omega
theorem gHear_ok {me : Int} {g : Guest} (h : GuestOk me g) (p : Packet) : GuestOk me (gHear g p).2 := by
 unfold gHear;split
 case isFalse => exact h
 rename_i hh;refine ⟨h.me, ?_, fun k r hk => ?_, h.le⟩
 ·have := h.no; simp [hh.1] at this ⊢; exact this
 ·show r.client = me /\ r.no = k + 1;have hk' : (g.done ++ [gRec g p.answer])[k]? = some r := hk;rw [List.getElem?_append] at hk';split at hk'
  ·exact h.nums k r hk'
  ·rename_i hlt
   have hk0 : k - g.done.length = 0 := by
    rcases Nat.eq_zero_or_pos (k - g.done.length) with h0 | h0
    ·exact h0
    ·rw [List.getElem?_eq_none (by simp; omega)] at hk'; cases hk'
   rw [hk0] at hk';simp at hk';subst hk';have hno := h.no;simp [hh.1] at hno;exact ⟨h.me, by show g.no = k + 1; rw [hno]; omega⟩
theorem gOk_done {me : Int} {g : Guest} (h : GuestOk me g) : g.done.length <= 200 := by
 have := h.no; have := h.le; split at * <;> omega
theorem gAsk_done (g : Guest) (c : Call) : (gAsk g c).2.done = g.done := by unfold gAsk; split <;> try rfl
                                                                            split <;> try rfl
                                                                            split <;> rfl
theorem gAsk_code {g : Guest} {c : Call} (h : (gAsk g c).1 ≠ 0) : (gAsk g c).2 = g := by
 unfold gAsk at h ⊢;split at h
 ·simp_all
 split at h
 ·simp_all
 split at h
 ·simp_all
 ·simp at h
theorem gAsk_zero {g : Guest} {c : Call} (h : (gAsk g c).1 = 0) : g.isOpen = false /\ (gAsk g c).2 = { g with no := g.no + 1, call := c, isOpen := true } := by
 unfold gAsk at h ⊢;by_cases h1 : callCode c ≠ 0
 ·rw [if_pos h1] at h; exact (h1 h).elim
 rw [if_neg h1] at h ⊢;by_cases h2 : g.isOpen = true
 ·rw [if_pos h2] at h; cases h
 rw [if_neg h2] at h ⊢;by_cases h3 : 200 <= g.no
 ·rw [if_pos h3] at h; cases h
 rw [if_neg h3];exact ⟨by simpa using h2, rfl⟩
def rnd (n : Int) (len : Nat) : Nat := ((IntKind.u64.wrap n).tmod (len : Int)).toNat
theorem rnd_lt (n : Int) (len : Nat) (h : 0 < len) : rnd n len < len := by
 unfold rnd;have h0 : 0 <= IntKind.u64.wrap n := by rw [IntKind.wrap_u64]; omega
 rw [Int.tmod_eq_emod_of_nonneg h0];have := Int.emod_lt_of_pos (IntKind.u64.wrap n) (show (0 : Int) < len by omega);have := Int.emod_nonneg (IntKind.u64.wrap n) (show (len : Int) ≠ 0 by omega);omega
theorem rnd_wrap (n : Int) (len : Nat) (h : 0 < len) (hb : len <= 9223372036854775807) : wrap64 ((IntKind.u64.wrap n).tmod (len : Int)) = (rnd n len : Int) := by
 have h1 := rnd_lt n len h;unfold rnd at h1 ⊢;have h0 : 0 <= IntKind.u64.wrap n := by rw [IntKind.wrap_u64]; omega
 rw [Int.tmod_eq_emod_of_nonneg h0] at h1 ⊢;have := Int.emod_nonneg (IntKind.u64.wrap n) (show (len : Int) ≠ 0 by omega);rw [Int.toNat_of_nonneg this];unfold wrap64;omega
def pSend (l : List Packet) (m : Packet) : Bool × List Packet := if l.length < 40 then (true, l ++ [m]) else (false, l)
def pTake (l : List Packet) (n : Int) : Packet × Bool × List Packet :=
 match l[rnd n l.length]? with
 | some m => (m, true, l.take (rnd n l.length) ++ l.drop (rnd n l.length + 1))
 | none => (Packet.zero, false, l)
def pDouble (l : List Packet) (n : Int) : Bool × List Packet :=
 match l[rnd n l.length]? with
 | some m => pSend l m
 | none => (false, l)
theorem pSend_le {l : List Packet} (m : Packet) (h : l.length <= 40) : (pSend l m).2.length <= 40 := by unfold pSend; split <;> simp <;> omega
theorem pTake_le {l : List Packet} (n : Int) (h : l.length <= 40) : (pTake l n).2.2.length <= 40 := by unfold pTake; split <;> simp <;> omega
theorem pDouble_le {l : List Packet} (n : Int) (h : l.length <= 40) : (pDouble l n).2.length <= 40 := by
 unfold pDouble; split
 ·exact pSend_le _ h
 ·exact h
structure House where
 S : List Record
 G : Nat -> Guest
 bag : List Packet
def upd {α : Type} (G : Nat -> α) (i : Nat) (g : α) : Nat -> α := fun j => if j = i then g else G j
theorem upd_same {α : Type} (G : Nat -> α) (i : Nat) (g : α) : upd G i g i = g := by simp [upd]
theorem upd_other {α : Type} (G : Nat -> α) {i j : Nat} (g : α) (h : j ≠ i) : upd G i g j = G j := by simp [upd, h]
def hNew : House := ⟨[], fun i => gNew i, []⟩
def hReply (p : Packet) (a : Answer) : Packet := ⟨true, p.client, p.no, p.call, a⟩
def hCome (h : House) (p : Packet) : House :=
 if p.reply = true then
  if 0 <= p.client /\ p.client < 3 then { h with G := upd h.G p.client.toNat (gHear (h.G p.client.toNat) p).2 } else h
 else if (chestCall h.S p.client p.no p.call).1.2.2 = 0 then
  { h with S := (chestCall h.S p.client p.no p.call).2, bag := (pSend h.bag (hReply p (chestCall h.S p.client p.no p.call).1.1)).2 }
 else h
def hSend (h : House) (n : Int) : Int × House :=
 if ¬ (0 <= n /\ n < 3) then (9, h)
 else if (gSend (h.G n.toNat)).2 = false then (6, h)
 else if (pSend h.bag (gSend (h.G n.toNat)).1).1 = false then (7, h)
 else (0, { h with bag := (pSend h.bag (gSend (h.G n.toNat)).1).2 })
def hTook (h : House) (n : Int) : House := { h with bag := (pTake h.bag n).2.2 }
def hPacket (h : House) (x : Step) : Int × House :=
 if h.bag = [] then (6, h)
 else if x.kind = 5 then (if (pDouble h.bag x.n).1 = true then (0, { h with bag := (pDouble h.bag x.n).2 }) else (7, h))
 else if x.kind = 3 then (0, hCome (hTook h x.n) (pTake h.bag x.n).1)
 else if x.kind = 7 /\ (pTake h.bag x.n).1.reply = false then
  ((chestTear h.S (pTake h.bag x.n).1.client (pTake h.bag x.n).1.no (pTake h.bag x.n).1.call x.keep).1,
    { hTook h x.n with S := (chestTear h.S (pTake h.bag x.n).1.client (pTake h.bag x.n).1.no (pTake h.bag x.n).1.call x.keep).2 })
 else (0, hTook h x.n)
def hCall (h : House) (n : Int) (c : Call) : Int × House :=
 if ¬ (0 <= n /\ n < 3) then (9, h) else ((gAsk (h.G n.toNat) c).1, { h with G := upd h.G n.toNat (gAsk (h.G n.toNat) c).2 })
def hStep (h : House) (x : Step) : Int × House :=
 if x.kind = 1 then hCall h x.n x.call
 else if x.kind = 2 then hSend h x.n
 else if x.kind = 3 \/ x.kind = 4 \/ x.kind = 5 \/ x.kind = 7 then hPacket h x
 else if x.kind = 6 then (0, h)
 else (1, h)
def hDrain1 (h : House) : House := hCome (hTook h 0) (pTake h.bag 0).1
def weigh (l : List Packet) : Nat := (l.map fun p => if p.reply = true then 1 else 2).sum
def hDrainF : Nat -> House -> House
 | 0, h => h
 | n + 1, h => if h.bag = [] then h else hDrainF n (hDrain1 h)
def hDrain (h : House) : House := hDrainF (weigh h.bag) h
theorem weigh_append (l r : List Packet) : weigh (l ++ r) = weigh l + weigh r := by simp [weigh]
theorem rnd_zero (len : Nat) : rnd 0 len = 0 := by unfold rnd; rw [IntKind.wrap_u64]; simp
theorem pTake_cons (p : Packet) (l : List Packet) : pTake (p :: l) 0 = (p, true, l) := by
 unfold pTake;rw [rnd_zero];simp
theorem hDrain1_weigh {h : House} (hb : h.bag ≠ []) : weigh (hDrain1 h).bag < weigh h.bag := by
 unfold hDrain1 hTook;cases hq : h.bag with
 | nil => exact (hb hq).elim
 | cons p l =>
   rw [pTake_cons];have hw : weigh (p :: l) = (if p.reply = true then 1 else 2) + weigh l := by simp [weigh]
   rw [hw];unfold hCome;by_cases hr : p.reply = true
   ·rw [if_pos hr, if_pos hr];split <;> simp <;> omega
   ·rw [if_neg hr, if_neg hr];split
    ·show weigh (pSend l _).2 < _;unfold pSend;split
     ·rw [weigh_append]; simp [weigh, hReply]; omega
     ·show weigh l < _; omega
    ·show weigh l < _; omega
theorem hDrainF_enough (n : Nat) (h : House) (hn : weigh h.bag <= n) : hDrainF n h = hDrainF (weigh h.bag) h := by
 induction n using Nat.strongRecOn generalizing h with
 | ind n ih =>
   by_cases hb : h.bag = []
   ·cases n with
    | zero => rw [show weigh h.bag = 0 by rw [hb]; rfl]
    | succ n => rw [show weigh h.bag = 0 by rw [hb]; rfl]; simp [hDrainF, hb]
   ·have hlt := hDrain1_weigh hb;cases n with
    | zero => omega
    | succ n =>
      cases hw : weigh h.bag with
      | zero => omega
      | succ m =>
        simp only [hDrainF, if_neg hb];rw [ih n (by omega) (hDrain1 h) (by omega), ih m (by omega) (hDrain1 h) (by omega)]
theorem hDrain_nil {h : House} (hb : h.bag = []) : hDrain h = h := by
 unfold hDrain;rw [hb];rfl
theorem hDrain_step {h : House} (hb : h.bag ≠ []) : hDrain h = hDrain (hDrain1 h) := by
 have hlt := hDrain1_weigh hb;unfold hDrain;cases hw : weigh h.bag with
 | zero => omega
 | succ m =>
   simp only [hDrainF, if_neg hb];exact hDrainF_enough m _ (by omega)
theorem hDrain_ind {P : House -> Prop} (h1 : ∀ h, P h -> h.bag ≠ [] -> P (hDrain1 h)) {h : House} (h0 : P h) : P (hDrain h) /\ (hDrain h).bag = [] := by
 generalize hn : weigh h.bag = n;induction n using Nat.strongRecOn generalizing h with
 | ind n ih =>
   by_cases hb : h.bag = []
   ·rw [hDrain_nil hb]; exact ⟨h0, hb⟩
   ·rw [hDrain_step hb];exact ih (weigh (hDrain1 h).bag) (by rw [<- hn]; exact hDrain1_weigh hb) (h1 h h0 hb) rfl
def hSend1 (h : House) (i : Nat) : House := if (h.G i).isOpen = true then (hSend h i).2 else h
def hSendAll (h : House) : House := hSend1 (hSend1 (hSend1 h 0) 1) 2
def busy (h : House) : Bool := (h.G 0).isOpen || ((h.G 1).isOpen || (h.G 2).isOpen)
def hCalmF : Nat -> Nat -> House -> Nat × House
 | 0, k, h => (k, h)
 | n + 1, k, h => if busy (hDrain h) = true then hCalmF n (k + 1) (hSendAll (hDrain h)) else (k, hDrain h)
def hCalm (h : House) : Nat × House := hCalmF 3 0 h
def asked (g : Guest) : List Call := g.done.map (·.call) ++ (if g.isOpen = true then [g.call] else [])
def Nth (g : Guest) (no : Int) (c : Call) : Prop := 1 <= no /\ (asked g)[(no - 1).toNat]? = some c
theorem length_asked {m : Int} {g : Guest} (h : GuestOk m g) : ((asked g).length : Int) = g.no := by
 rw [h.no]; unfold asked; split <;> simp
theorem Nth.le {m : Int} {g : Guest} {no : Int} {c : Call} (h : Nth g no c) (hg : GuestOk m g) : no <= g.no := by
 have h1 := (lG h.2).1;have h2 := length_asked hg;have := h.1;omega
theorem nth_open {m : Int} {g : Guest} (h : GuestOk m g) (ho : g.isOpen = true) : Nth g g.no g.call := by
 have hn := h.no;simp [ho] at hn;refine ⟨by omega, ?_⟩;unfold asked;have : (g.no - 1).toNat = (g.done.map (·.call)).length := by rw [hn]; simp
 rw [this];simp [ho]
theorem asked_hear (g : Guest) (p : Packet) : asked (gHear g p).2 = asked g := by
 unfold gHear;split
 ·rename_i hh;simp [asked, hh.1, gRec]
 ·rfl
theorem Nth.hear {g : Guest} {no : Int} {c : Call} (h : Nth g no c) (p : Packet) : Nth (gHear g p).2 no c := ⟨h.1, by rw [asked_hear]; exact h.2⟩
theorem asked_ask (g : Guest) (c : Call) (h : (gAsk g c).1 = 0) : asked (gAsk g c).2 = asked g ++ [c] := by
 obtain ⟨ho, e⟩ := gAsk_zero h;rw [e];simp [asked, ho]
theorem Nth.ask {g : Guest} {no : Int} {c : Call} (h : Nth g no c) (x : Call) : Nth (gAsk g x).2 no c := by
 by_cases h0 : (gAsk g x).1 = 0
 ·refine ⟨h.1, ?_⟩;rw [asked_ask g x h0, List.getElem?_append_left (lG h.2).1];exact h.2
 ·rw [gAsk_code h0]; exact h
theorem gHear_no' (g : Guest) (p : Packet) : (gHear g p).2.no = g.no := by unfold gHear; split <;> rfl
def Changing (c : Call) : Prop := 1 <= c.kind /\ c.kind <= 4
def Told (S : List Record) (g : Guest) (from_ : Nat) (client no : Int) (c : Call) (a : Answer) : Prop :=
 (Changing c -> (⟨client, no, c, a⟩ : Record) ∈ S) /\ (¬ Changing c -> no = g.no -> ∃ n, from_ <= n /\ n <= S.length /\ a = (fdo (fbehind (S.take n)) c).1)
structure PacketOk (S : List Record) (G : Nat -> Guest) (fr : Nat -> Nat) (p : Packet) : Prop where
 client : 0 <= p.client /\ p.client < 3
 nth : Nth (G p.client.toNat) p.no p.call
 told : p.reply = true -> Told S (G p.client.toNat) (fr p.client.toNat) p.client p.no p.call p.answer
structure HouseOk (h : House) (fr : Nat -> Nat) : Prop where
 log : LogOk h.S
 guest : ∀ i : Nat, i < 3 -> GuestOk (i : Int) (h.G i)
 calls : ∀ i : Nat, i < 3 -> ∀ c ∈ asked (h.G i), callCode c = 0
 bag : h.bag.length <= 40
 packets : ∀ p ∈ h.bag, PacketOk h.S h.G fr p
 mine : ∀ r ∈ h.S, Nth (h.G r.client.toNat) r.no r.call
 done : ∀ i : Nat, i < 3 -> ∀ r ∈ (h.G i).done, Changing r.call -> r ∈ h.S
 fr : ∀ i : Nat, i < 3 -> fr i <= h.S.length
theorem hNew_ok : HouseOk hNew (fun _ => 0) :=
 ⟨LogOk.nil, fun i _ => gNew_ok i, fun i _ c hc => by simp [hNew, gNew, asked] at hc, by simp [hNew], fun p hp => by simp [hNew] at hp, fun r hr => by simp [hNew] at hr, fun i _ r hr => by simp [hNew, gNew] at hr, fun _ _ => Nat.le_refl _⟩
theorem Told.more {S S' : List Record} {g : Guest} {fr : Nat} {client no : Int} {c : Call} {a : Answer} (h : Told S g fr client no c a) (hS : ∃ T, S' = S ++ T) : Told S' g fr client no c a := by
 obtain ⟨T, rfl⟩ := hS;refine ⟨fun hc => List.mem_append_left _ (h.1 hc), fun hc hn => ?_⟩;obtain ⟨n, h1, h2, h3⟩ := h.2 hc hn;exact ⟨n, h1, by rw [List.length_append]; omega, by rw [List.take_append_of_le_length h2]; exact h3⟩
theorem chest_more (L : List Record) (client no : Int) (c : Call) : ∃ T, (chestCall L client no c).2 = L ++ T := by
 have hw := chest_way L client no c;generalize chestCall L client no c = r at hw;rcases hw with ⟨k, hk', rfl⟩ | ⟨_, hk', rfl⟩ | ⟨hc, _, y, hy, e1, e2, rfl⟩ | ⟨hc, hk, hl, hs, rfl⟩
 ·exact ⟨[], by simp⟩
 ·exact ⟨[], by simp⟩
 ·exact ⟨[], by simp⟩
 ·exact ⟨_, rfl⟩
theorem chestTear_snd (L : List Record) (client no : Int) (c : Call) (keep : Int) :
 (chestTear L client no c keep).2 = if (chestCall L client no c).1.2.2 = 0 /\ 0 < (chestCall L client no c).1.2.1 /\ keep < (chestCall L client no c).1.2.1 then L else (chestCall L client no c).2 := rfl
theorem chestTear_more (L : List Record) (client no : Int) (c : Call) (keep : Int) : ∃ T, (chestTear L client no c keep).2 = L ++ T := by
 rw [chestTear_snd];split
 ·exact ⟨[], by simp⟩
 ·exact chest_more L client no c
theorem chest_mine {L : List Record} {client no : Int} {c : Call} {P : Record -> Prop} (h : ∀ r ∈ L, P r) (hn : ∀ a, P ⟨client, no, c, a⟩) : ∀ r ∈ (chestCall L client no c).2, P r := by
 have hw := chest_way L client no c;generalize chestCall L client no c = r at hw;rcases hw with ⟨k, hk', rfl⟩ | ⟨_, hk', rfl⟩ | ⟨hc, _, y, hy, e1, e2, rfl⟩ | ⟨hc, hk, hl, hs, rfl⟩
 ·exact h
 ·exact h
 ·exact h
 ·intro r hr;rcases List.mem_append.1 hr with hr | hr
  ·exact h r hr
  ·rw [List.mem_singleton.1 hr]; exact hn _
theorem chestTear_mine {L : List Record} {client no : Int} {c : Call} {keep : Int} {P : Record -> Prop} (h : ∀ r ∈ L, P r) (hn : ∀ a, P ⟨client, no, c, a⟩) : ∀ r ∈ (chestTear L client no c keep).2, P r := by
 rw [chestTear_snd];split
 ·exact h
 ·exact chest_mine h hn
theorem PacketOk.turn {S S' : List Record} {G G' : Nat -> Guest} {fr fr' : Nat -> Nat} {p : Packet} (h : PacketOk S G fr p) (hS : ∃ T, S' = S ++ T)
 (hn : ∀ no c, Nth (G p.client.toNat) no c -> Nth (G' p.client.toNat) no c)
 (ht : ∀ no c, Nth (G p.client.toNat) no c -> no = (G' p.client.toNat).no -> no = (G p.client.toNat).no /\ fr' p.client.toNat = fr p.client.toNat) : PacketOk S' G' fr' p :=
 ⟨h.client, hn _ _ h.nth, fun hr => by
  have h1 := (h.told hr).more hS;refine ⟨h1.1, fun hc e => ?_⟩;obtain ⟨e1, e2⟩ := ht _ _ h.nth e;rw [e2];exact h1.2 hc e1⟩
theorem HouseOk.bagged {h : House} {fr : Nat -> Nat} (hh : HouseOk h fr) {b : List Packet} (hl : b.length <= 40) (hb : ∀ p ∈ b, p ∈ h.bag \/ PacketOk h.S h.G fr p) : HouseOk { h with bag := b } fr :=
 ⟨hh.log, hh.guest, hh.calls, hl, fun p hp => by rcases hb p hp with h1 | h1; exact hh.packets p h1; exact h1, hh.mine, hh.done, hh.fr⟩
theorem pSend_mem {l : List Packet} {m p : Packet} (h : p ∈ (pSend l m).2) : p ∈ l \/ p = m := by
 unfold pSend at h;split at h
 ·simpa using h
 ·exact .inl h
theorem pTake_mem {l : List Packet} {n : Int} {p : Packet} (h : p ∈ (pTake l n).2.2) : p ∈ l := by
 unfold pTake at h;split at h
 ·rcases List.mem_append.1 h with h | h
  ·exact List.mem_of_mem_take h
  ·exact List.mem_of_mem_drop h
 ·exact h
theorem pTake_took {l : List Packet} (n : Int) (h : l ≠ []) : (pTake l n).1 ∈ l := by
 have hlt := rnd_lt n l.length (List.length_pos_iff.2 h);unfold pTake;rw [List.getElem?_eq_getElem hlt];exact List.getElem_mem hlt
theorem pDouble_mem {l : List Packet} {n : Int} {p : Packet} (h : p ∈ (pDouble l n).2) : p ∈ l := by
 unfold pDouble at h;split at h
 ·rename_i m hm;rcases pSend_mem h with h | rfl
  ·exact h
  ·exact List.mem_of_getElem? hm
 ·exact h
theorem hTook_ok {h : House} {fr : Nat -> Nat} (hh : HouseOk h fr) (n : Int) : HouseOk (hTook h n) fr := hh.bagged (pTake_le n hh.bag) fun _ hp => .inl (pTake_mem hp)
theorem toNat_lt {n : Int} (h : 0 <= n /\ n < 3) : n.toNat < 3 := by omega
theorem upd_cases {G : Nat -> Guest} {i j : Nat} {g : Guest} {P : Guest -> Prop} (h1 : j = i -> P g) (h2 : j ≠ i -> P (G j)) : P (upd G i g j) := by
 by_cases h : j = i
 ·subst h; rw [upd_same]; exact h1 rfl
 ·rw [upd_other G g h]; exact h2 h
theorem hear_ok {h : House} {fr : Nat -> Nat} (hh : HouseOk h fr) {p : Packet} (hp : PacketOk h.S h.G fr p) : HouseOk { h with G := upd h.G p.client.toNat (gHear (h.G p.client.toNat) p).2 } fr := by
 have hi := toNat_lt hp.client
 refine ⟨hh.log, fun i hlt => upd_cases (P := GuestOk (i : Int)) (fun e => ?_) (fun _ => hh.guest i hlt), fun i hlt => upd_cases (P := fun g => ∀ c ∈ asked g, callCode c = 0) (fun e => ?_) (fun _ => hh.calls i hlt), hh.bag, fun q hq => ?_, fun r hr => ?_,
  fun i hlt => upd_cases (P := fun g => ∀ r ∈ g.done, Changing r.call -> r ∈ h.S) (fun e => ?_) (fun _ => hh.done i hlt), hh.fr⟩
 ·subst e; exact gHear_ok (hh.guest _ hi) p
 ·rw [asked_hear]; exact hh.calls _ hi
 ·refine (hh.packets q hq).turn ⟨[], by simp⟩ (fun no c hn => ?_) (fun no c hn e => ?_)
  ·exact upd_cases (P := fun g => Nth g no c) (fun e => by rw [e] at hn; exact hn.hear p) (fun _ => hn)
  ·refine ⟨?_, rfl⟩;revert e
   show no = (upd h.G p.client.toNat (gHear (h.G p.client.toNat) p).2 q.client.toNat).no -> _;exact upd_cases (P := fun g => no = g.no -> no = (h.G q.client.toNat).no) (fun e => by rw [gHear_no', e]; exact id) (fun _ => id)
 ·have hn := hh.mine r hr;exact upd_cases (P := fun g => Nth g r.no r.call) (fun e => by rw [e] at hn; exact hn.hear p) (fun _ => hn)
 ·intro r hr hc;unfold gHear at hr;split at hr
  ·rename_i hhear;rcases List.mem_append.1 hr with hr | hr
   ·exact hh.done _ hi r hr hc
   ·have hr' := List.mem_singleton.1 hr;obtain ⟨_, hrep, e1, e2, e3⟩ := hhear;have := (hp.told hrep).1 (by rw [hr'] at hc; rw [e3]; exact hc);rw [hr'];unfold gRec;rw [<- e1, <- e2, <- e3];exact this
  ·exact hh.done _ hi r hr hc
theorem serve_ok {h : House} {fr : Nat -> Nat} (hh : HouseOk h fr) {p : Packet} (hp : PacketOk h.S h.G fr p) (S' : List Record) (hS : ∃ T, S' = h.S ++ T) (hlog : LogOk S') (hm : ∀ r ∈ S', Nth (h.G r.client.toNat) r.no r.call)
 (b : List Packet) (hl : b.length <= 40) (hb : ∀ q ∈ b, q ∈ h.bag \/ (q.reply = true /\ q.client = p.client /\ q.no = p.no /\ q.call = p.call /\ Told S' (h.G p.client.toNat) (fr p.client.toNat) p.client p.no p.call q.answer)) : HouseOk { h with S := S', bag := b } fr := by
 have hlen : h.S.length <= S'.length := by obtain ⟨T, rfl⟩ := hS; simp
 refine ⟨hlog, hh.guest, hh.calls, hl, fun q hq => ?_, hm, fun i hi r hr hc => ?_, fun i hi => Nat.le_trans (hh.fr i hi) hlen⟩
 ·rcases hb q hq with h1 | ⟨_, e2, e3, e4, ht⟩
  ·exact (hh.packets q h1).turn hS (fun _ _ => id) (fun _ _ _ e => ⟨e, rfl⟩)
  ·exact ⟨by rw [e2]; exact hp.client, by rw [e2, e3, e4]; exact hp.nth, fun _ => by rw [e2, e3, e4]; exact ht⟩
 ·obtain ⟨T, rfl⟩ := hS;exact List.mem_append_left _ (hh.done i hi r hr hc)
theorem chest_told {h : House} {fr : Nat -> Nat} (hh : HouseOk h fr) {p : Packet} (hp : PacketOk h.S h.G fr p) (h0 : (chestCall h.S p.client p.no p.call).1.2.2 = 0) :
 Told (chestCall h.S p.client p.no p.call).2 (h.G p.client.toNat) (fr p.client.toNat) p.client p.no p.call (chestCall h.S p.client p.no p.call).1.1 := by
 have hw := chest_way h.S p.client p.no p.call;generalize chestCall h.S p.client p.no p.call = r at hw h0;rcases hw with ⟨k, hk', rfl⟩ | ⟨_, hk', rfl⟩ | ⟨hc, hk, y, hy, e1, e2, rfl⟩ | ⟨hc, hk, hl, hs, rfl⟩
 ·exact (hk' h0).elim
 ·exact ⟨fun hc => (hk' hc).elim, fun _ _ => ⟨h.S.length, hh.fr _ (toNat_lt hp.client), Nat.le_refl _, by rw [List.take_length]⟩⟩
 ·obtain ⟨hm, ec⟩ := lastOf_mem hy;refine ⟨fun _ => ?_, fun hn => (hn hk).elim⟩;show (⟨p.client, p.no, p.call, y.answer⟩ : Record) ∈ h.S;rw [e1, e2, <- ec];exact hm
 ·refine ⟨fun _ => ?_, fun hn => (hn hk).elim⟩;show (⟨p.client, p.no, p.call, _⟩ : Record) ∈ h.S ++ [_];exact List.mem_append_right _ (List.mem_singleton.2 rfl)
theorem hCome_ok {h : House} {fr : Nat -> Nat} (hh : HouseOk h fr) {p : Packet} (hp : PacketOk h.S h.G fr p) : HouseOk (hCome h p) fr := by
 unfold hCome;split
 ·split
  ·exact hear_ok hh hp
  ·exact hh
 split
 ·rename_i h0;refine serve_ok hh hp _ (chest_more _ _ _ _) (chestCall_ok hh.log _ _ _) (chest_mine hh.mine fun a => hp.nth) _ (pSend_le _ hh.bag) fun q hq => ?_;rcases pSend_mem hq with hq | rfl
  ·exact .inl hq
  ·exact .inr ⟨rfl, rfl, rfl, rfl, chest_told hh hp h0⟩
 ·exact hh
theorem gSend_packet {h : House} {fr : Nat -> Nat} (hh : HouseOk h fr) {n : Int} (hn : 0 <= n /\ n < 3) (ho : (gSend (h.G n.toNat)).2 = true) : PacketOk h.S h.G fr (gSend (h.G n.toNat)).1 := by
 have hg := hh.guest _ (toNat_lt hn);unfold gSend at ho ⊢;split at ho
 ·rename_i hop;rw [if_pos hop];have hme : (h.G n.toNat).me = n := by rw [hg.me]; omega
  refine ⟨by show 0 <= (h.G n.toNat).me /\ (h.G n.toNat).me < 3; rw [hme]; exact hn, ?_, fun hr => by cases hr⟩;show Nth (h.G (h.G n.toNat).me.toNat) (h.G n.toNat).no (h.G n.toNat).call;rw [hme];exact nth_open hg hop
 ·cases ho
theorem hSend_ok {h : House} {fr : Nat -> Nat} (hh : HouseOk h fr) (n : Int) : HouseOk (hSend h n).2 fr := by
 unfold hSend;split
 ·exact hh
 rename_i hn;split
 ·exact hh
 rename_i ho;split
 ·exact hh
 ·refine hh.bagged (pSend_le _ hh.bag) fun q hq => ?_;rcases pSend_mem hq with hq | rfl
  ·exact .inl hq
  ·exact .inr (gSend_packet hh (Classical.not_not.1 hn) (by simpa using ho))
theorem hPacket_ok {h : House} {fr : Nat -> Nat} (hh : HouseOk h fr) (x : Step) : HouseOk (hPacket h x).2 fr := by
 unfold hPacket;split
 ·exact hh
 rename_i hb;have hp := hh.packets _ (pTake_took x.n hb);split
 ·split
  ·exact hh.bagged (pDouble_le _ hh.bag) fun q hq => .inl (pDouble_mem hq)
  ·exact hh
 split
 ·exact hCome_ok (hTook_ok hh x.n) hp
 split
 ·exact serve_ok hh hp _ (chestTear_more _ _ _ _ _) (chestTear_ok hh.log _ _ _ _) (chestTear_mine hh.mine fun a => hp.nth) _ (pTake_le _ hh.bag) fun q hq => .inl (pTake_mem hq)
 ·exact hTook_ok hh x.n
def frStep (fr : Nat -> Nat) (h : House) (x : Step) : Nat -> Nat := if x.kind = 1 /\ (hStep h x).1 = 0 then upd fr x.n.toNat (hStep h x).2.S.length else fr
theorem hCall_ok {h : House} {fr : Nat -> Nat} (hh : HouseOk h fr) (n : Int) (c : Call) (fr' : Nat -> Nat) (hf : fr' = if (hCall h n c).1 = 0 then upd fr n.toNat h.S.length else fr) : HouseOk (hCall h n c).2 fr' := by
 unfold hCall at hf ⊢;split at hf
 ·rename_i hn;rw [if_pos hn];have : fr' = fr := hf;subst this;exact hh
 rename_i hn;have hn := Classical.not_not.1 hn;have hlt := toNat_lt hn;rw [if_neg (by simpa using hn)];by_cases h0 : (gAsk (h.G n.toNat) c).1 = 0
 ·rw [if_pos h0] at hf;have hg := gAsk_zero h0;have hold := hh.guest _ hlt
  refine ⟨hh.log, fun i hi => upd_cases (P := GuestOk (i : Int)) (fun e => ?_) (fun _ => hh.guest i hi), fun i hi => upd_cases (P := fun g => ∀ c ∈ asked g, callCode c = 0) (fun e => ?_) (fun _ => hh.calls i hi), hh.bag, fun q hq => ?_, fun r hr => ?_,
   fun i hi => upd_cases (P := fun g => ∀ r ∈ g.done, Changing r.call -> r ∈ h.S) (fun e => ?_) (fun _ => hh.done i hi), fun i hi => ?_⟩
  ·subst e; exact gAsk_ok hold c
  ·rw [asked_ask _ _ h0];intro c' hc';rcases List.mem_append.1 hc' with h1 | h1
   ·exact hh.calls _ hlt c' h1
   ·rw [List.mem_singleton.1 h1];unfold gAsk at h0;by_cases hc : callCode c ≠ 0
    ·rw [if_pos hc] at h0; exact h0
    ·simpa using hc
  ·refine (hh.packets q hq).turn ⟨[], by simp⟩ (fun no c' hn' => upd_cases (P := fun g => Nth g no c') (fun e => by rw [e] at hn'; exact hn'.ask c) (fun _ => hn')) (fun no c' hn' e => ?_);have hq' := (hh.packets q hq).client;revert e
   show no = (upd h.G n.toNat (gAsk (h.G n.toNat) c).2 q.client.toNat).no -> _;by_cases hqn : q.client.toNat = n.toNat
   ·rw [hqn, upd_same];intro e;rw [hqn] at hn';have := hn'.le hold;rw [hg.2] at e;have e' : no = (h.G n.toNat).no + 1 := e;omega
   ·rw [upd_other _ _ hqn];intro e;exact ⟨e, by rw [hf, upd_other _ _ hqn]⟩
  ·have hn' := hh.mine r hr;exact upd_cases (P := fun g => Nth g r.no r.call) (fun e => by rw [e] at hn'; exact hn'.ask c) (fun _ => hn')
  ·rw [gAsk_done]; exact hh.done _ hlt
  ·rw [hf];by_cases hin : i = n.toNat
   ·subst hin; rw [upd_same]; exact Nat.le_refl _
   ·rw [upd_other _ _ hin]; exact hh.fr i hi
 ·rw [if_neg h0] at hf;subst hf
  have e : upd h.G n.toNat (gAsk (h.G n.toNat) c).2 = h.G := by
   rw [gAsk_code h0];funext j
   by_cases hj : j = n.toNat
   ·subst hj; rw [upd_same]
   ·rw [upd_other _ _ hj]
  show HouseOk { h with G := upd h.G n.toNat (gAsk (h.G n.toNat) c).2 } fr';rw [e];exact hh
theorem hStep_S_call {h : House} {x : Step} (hx : x.kind = 1) : (hStep h x).2.S = h.S := by
 unfold hStep hCall;rw [if_pos hx];split <;> rfl
theorem hStep_ok {h : House} {fr : Nat -> Nat} (hh : HouseOk h fr) (x : Step) : HouseOk (hStep h x).2 (frStep fr h x) := by
 by_cases h1 : x.kind = 1
 ·have h2 := hStep_S_call (h := h) h1;have h3 : hStep h x = hCall h x.n x.call := by unfold hStep; rw [if_pos h1]
  rw [h3];refine hCall_ok hh x.n x.call _ ?_;unfold frStep;rw [h2, h3];simp [h1]
 ·have hf : frStep fr h x = fr := by unfold frStep; rw [if_neg (fun e => h1 e.1)]
  rw [hf];unfold hStep;rw [if_neg h1];split
  ·exact hSend_ok hh _
  split
  ·exact hPacket_ok hh x
  split
  ·exact hh
  ·exact hh
theorem nth_done {m : Int} {g : Guest} (h : GuestOk m g) {d : Record} (hd : d ∈ g.done) : d.client = m /\ Nth g d.no d.call := by
 obtain ⟨k, hk, e⟩ := List.getElem_of_mem hd;have hk' : g.done[k]? = some d := by rw [List.getElem?_eq_getElem hk, e]
 obtain ⟨h1, h2⟩ := h.nums k d hk';refine ⟨h1, by omega, ?_⟩;have : (d.no - 1).toNat = k := by omega
 rw [this];unfold asked;rw [List.getElem?_append_left (by simpa using hk)];simp [hk']
theorem hSend1_G (h : House) (i : Nat) : (hSend1 h i).G = h.G /\ (hSend1 h i).S = h.S := by
 unfold hSend1 hSend;split
 ·split
  ·exact ⟨rfl, rfl⟩
  split
  ·exact ⟨rfl, rfl⟩
  split <;> exact ⟨rfl, rfl⟩
 ·exact ⟨rfl, rfl⟩
theorem of_busy {h : House} (hb : busy h = false) {i : Nat} (hi : i < 3) : (h.G i).isOpen = false := by
 unfold busy at hb;simp only [Bool.or_eq_false_iff] at hb;have : i = 0 \/ i = 1 \/ i = 2 := by omega
 rcases this with rfl | rfl | rfl
 ·exact hb.1
 ·exact hb.2.1
 ·exact hb.2.2
theorem hCalmF_le (n k : Nat) (h : House) : (hCalmF n k h).1 <= n + k := by
 induction n generalizing k h with
 | zero => simp [hCalmF]
 | succ n ih =>
   unfold hCalmF;split
   ·have := ih (k + 1) (hSendAll (hDrain h)); omega
   ·show k <= _; omega
theorem hDrain1_ok {h : House} {fr : Nat -> Nat} (hh : HouseOk h fr) (hb : h.bag ≠ []) : HouseOk (hDrain1 h) fr := hCome_ok (hTook_ok hh 0) (hh.packets _ (pTake_took 0 hb))
theorem hDrain_ok {h : House} {fr : Nat -> Nat} (hh : HouseOk h fr) : HouseOk (hDrain h) fr /\ (hDrain h).bag = [] := hDrain_ind (P := fun h => HouseOk h fr) (fun _ => hDrain1_ok) hh
theorem hSend1_ok {h : House} {fr : Nat -> Nat} (hh : HouseOk h fr) (i : Nat) : HouseOk (hSend1 h i) fr := by
 unfold hSend1;split
 ·exact hSend_ok hh _
 ·exact hh
theorem hSendAll_ok {h : House} {fr : Nat -> Nat} (hh : HouseOk h fr) : HouseOk (hSendAll h) fr := hSend1_ok (hSend1_ok (hSend1_ok hh 0) 1) 2
theorem hCalmF_ok (n : Nat) : ∀ {k : Nat} {h : House} {fr : Nat -> Nat}, HouseOk h fr -> HouseOk (hCalmF n k h).2 fr := by
 induction n with
 | zero => intro k h fr hh; exact hh
 | succ n ih =>
   intro k h fr hh;have h1 := (hDrain_ok hh).1;unfold hCalmF;split
   ·exact ih (hSendAll_ok h1)
   ·exact h1
theorem hCalm_ok {h : House} {fr : Nat -> Nat} (hh : HouseOk h fr) : HouseOk (hCalm h).2 fr := hCalmF_ok 3 hh
def hSendUpto (h : House) : Nat -> House
 | 0 => h
 | n + 1 => hSend1 (hSendUpto h n) n
def busyUpto (h : House) : Nat -> Bool
 | 0 => false
 | n + 1 => busyUpto h n || (h.G n).isOpen
theorem hSend1_G' (h : House) (i : Nat) : (hSend1 h i).G = h.G := (hSend1_G h i).1
theorem hSendUpto_G (h : House) (n : Nat) : (hSendUpto h n).G = h.G := by
 induction n with
 | zero => rfl
 | succ n ih => show (hSend1 _ n).G = _; rw [hSend1_G', ih]
theorem busyUpto_3 (h : House) : busyUpto h 3 = busy h := by
 simp [busyUpto, busy, Bool.or_assoc]
def hRound (h : House) : Nat -> House
 | 0 => h
 | n + 1 => hSendAll (hDrain (hRound h n))
theorem hCalmF_round (h : House) : ∀ (n k : Nat), (∀ j, j < k -> busy (hDrain (hRound h j)) = true) -> hCalmF (n + k) 0 h = hCalmF n k (hRound h k) := by
 intro n k;induction k generalizing n with
 | zero => intro _; rfl
 | succ k ih =>
   intro hb;have := ih (n + 1) fun j hj => hb j (by omega);rw [show n + (k + 1) = n + 1 + k by omega, this];show (if busy (hDrain (hRound h k)) = true then hCalmF n (k + 1) (hSendAll (hDrain (hRound h k))) else _) = _;rw [if_pos (hb k (by omega))];rfl
theorem hCalm_still {h : House} {k : Nat} (hk : k < 3) (hb : ∀ j, j < k -> busy (hDrain (hRound h j)) = true) (hs : busy (hDrain (hRound h k)) = false) : hCalm h = (k, hDrain (hRound h k)) := by
 have := hCalmF_round h (3 - k) k hb;rw [show 3 - k + k = 3 by omega] at this;unfold hCalm;rw [this];obtain ⟨m, hm⟩ : ∃ m, 3 - k = m + 1 := ⟨3 - k - 1, by omega⟩
 rw [hm];unfold hCalmF;rw [hs];simp
theorem hCalm_loud {h : House} (hb : ∀ j, j < 3 -> busy (hDrain (hRound h j)) = true) : hCalm h = (3, hRound h 3) := by
 have := hCalmF_round h 0 3 hb;unfold hCalm;rw [this];rfl
theorem hRound_ok {h : House} {fr : Nat -> Nat} (hh : HouseOk h fr) (n : Nat) : HouseOk (hRound h n) fr := by
 induction n with
 | zero => exact hh
 | succ n ih => exact hSendAll_ok (hDrain_ok ih).1
def showOne (n t : ByteArray) : List UInt8 := n.toList ++ 61 :: (t.toList ++ [10])
def fshow (l : List FileD) : List UInt8 := l.flatMap fun f => showOne f.name f.text
theorem fshow_len {l : List FileD} (h : FOk l) : (fshow l).length <= 6 * 23 := by
 have : ∀ (r : List FileD), (∀ f ∈ r, f ∈ l) -> (fshow r).length <= r.length * 23 := fun r => by
  induction r with
  | nil => intro _; simp [fshow]
  | cons f r ih =>
    intro hr;have h1 := ih fun g hg => hr g (List.mem_cons_of_mem _ hg);have h2 := h.each f (hr f List.mem_cons_self)
    have h3 : f.name.size <= 5 := by
     have := h2.1;unfold okText at this;simp only [Bool.and_eq_true, decide_eq_true_eq] at this;exact this.2.2
    have h4 := h2.2;unfold fshow at h1 ⊢;rw [List.flatMap_cons, List.length_append];have : (showOne f.name f.text).length = f.name.size + f.text.size + 2 := by simp [showOne, length_toList']; omega
    simp only [List.length_cons];omega
 have := this l fun _ hf => hf;have := h.len;omega
def storyTexts (L : List Record) : List ByteArray := (List.range (L.length + 1)).map fun k => mkStr (fshow (fbehind (L.take k)))
end Go.Proofs.YtalfbhhldfffkaaGreatDoor
