/- Drawer2: a call of files, in plain terms: what it is answered and what becomes of the files; the document's and the code's are one. No program is walked here. -/
import Derived.Test.YtalfbhhldfffkabDrawer
namespace Go.Proofs.Ytalfbhhldfffkab
open Go.RowKit

def noText : ByteArray := ⟨#[]⟩
/-- all, with a blank between -/
def joinSp : List ByteArray → ByteArray
  | [] => noText
  | x :: l => l.foldl (fun s y => s ++ (⟨#[32]⟩ : ByteArray) ++ y) x
def ans (code : Int) : Answer := ⟨code, noText⟩

def ddo (d : List FileD) (c : Call) : Answer × List FileD :=
  if callCode c ≠ 0 then (ans (callCode c), d)
  else if c.kind = 6 then (⟨0, joinSp (dNames d)⟩, d)
  else if c.kind = 1 then (match dAt d c.name with
    | some _ => (ans 5, d)
    | none => if 6 ≤ d.length then (ans 7, d) else (ans 0, d ++ [⟨c.name, noText⟩]))
  else match dAt d c.name with
    | none => (ans 6, d)
    | some i => match d[i]? with
      | none => (ans 0, d)
      | some x =>
        if c.kind = 5 then (⟨0, x.text⟩, d)
        else if c.kind = 4 then (if 16 < x.text.size + c.text.size then (ans 7, d) else (ans 0, d.set i ⟨x.name, x.text ++ c.text⟩))
        else if c.kind = 3 then (match dAt d c.to_ with
          | some _ => (ans 5, d)
          | none => (ans 0, d.set i ⟨c.to_, x.text⟩))
        else (ans 0, d.eraseIdx i)
def fdo (l : List FileD) (c : Call) : Answer × List FileD :=
  if callCode c ≠ 0 then (ans (callCode c), l)
  else if c.kind = 6 then (⟨0, joinSp (l.map (·.name))⟩, l)
  else if c.kind = 1 then (match dAt l c.name with
    | some _ => (ans 5, l)
    | none => if 6 ≤ l.length then (ans 7, l) else (ans 0, insAt l ⟨c.name, noText⟩))
  else match dAt l c.name with
    | none => (ans 6, l)
    | some i => match l[i]? with
      | none => (ans 0, l)
      | some x =>
        if c.kind = 5 then (⟨0, x.text⟩, l)
        else if c.kind = 4 then (if 16 < x.text.size + c.text.size then (ans 7, l) else (ans 0, l.set i ⟨x.name, x.text ++ c.text⟩))
        else if c.kind = 3 then (match dAt l c.to_ with
          | some _ => (ans 5, l)
          | none => (ans 0, insAt (l.eraseIdx i) ⟨c.to_, x.text⟩))
        else (ans 0, l.eraseIdx i)

/-- The code's and the document's answers are one, and so are the files. -/
theorem fdo_ddo {l d : List FileD} (h : Srt l d) (c : Call) : (fdo l c).1 = (ddo d c).1 ∧ Srt (fdo l c).2 (ddo d c).2 := by
  unfold fdo ddo
  by_cases h0 : callCode c ≠ 0
  · rw [if_pos h0, if_pos h0]; exact ⟨rfl, h⟩
  rw [if_neg h0, if_neg h0]
  by_cases h6 : c.kind = 6
  · rw [if_pos h6, if_pos h6, h.names]; exact ⟨rfl, h⟩
  rw [if_neg h6, if_neg h6]
  by_cases h1 : c.kind = 1
  · rw [if_pos h1, if_pos h1]
    cases hl : dAt l c.name with
    | none =>
      rw [(h.none c.name).1 hl, h.2.length_eq]
      by_cases h7 : 6 ≤ d.length
      · simp only [if_pos h7]; exact ⟨trivial, h⟩
      · simp only [if_neg h7]; exact ⟨trivial, h.insert hl⟩
    | some i =>
      obtain ⟨j, x, hj, _⟩ := h.some hl
      rw [hj]
      exact ⟨rfl, h⟩
  rw [if_neg h1, if_neg h1]
  cases hl : dAt l c.name with
  | none => rw [(h.none c.name).1 hl]; exact ⟨rfl, h⟩
  | some i =>
    obtain ⟨j, x, hj, hi, hx, hn⟩ := h.some hl
    rw [hj]
    simp only [hi, hx]
    by_cases h5 : c.kind = 5
    · simp only [if_pos h5]; exact ⟨trivial, h⟩
    simp only [if_neg h5]
    by_cases h4 : c.kind = 4
    · simp only [if_pos h4]
      by_cases hs : 16 < x.text.size + c.text.size
      · simp only [if_pos hs]; exact ⟨trivial, h⟩
      · simp only [if_neg hs]; exact ⟨trivial, h.set hi hx rfl⟩
    simp only [if_neg h4]
    by_cases h3 : c.kind = 3
    · simp only [if_pos h3]
      cases ht : dAt l c.to_ with
      | none => rw [(h.none c.to_).1 ht]; exact ⟨rfl, h.rename hi hx ht⟩
      | some k =>
        obtain ⟨k', x', hk', _⟩ := h.some ht
        rw [hk']
        exact ⟨rfl, h⟩
    · simp only [if_neg h3]; exact ⟨trivial, h.erase hi hx⟩

/-! ### What holds of all files -/
structure FOk (l : List FileD) : Prop where
  srt : Sorted l
  len : l.length ≤ 6
  each : ∀ f ∈ l, okText 97 122 5 f.name = true ∧ f.text.size ≤ 16
theorem FOk.nil : FOk [] := ⟨List.Pairwise.nil, by simp, fun f h => by simp at h⟩
theorem FOk.sublist {l r : List FileD} (h : FOk l) (hr : r.Sublist l) : FOk r := ⟨List.Pairwise.sublist hr h.srt, Nat.le_trans hr.length_le h.len, fun f hf => h.each f (hr.subset hf)⟩
theorem FOk.insert {l : List FileD} (h : FOk l) {x : FileD} (hl : l.length < 6) (hx : dAt l x.name = none) (h1 : okText 97 122 5 x.name = true) (h2 : x.text.size ≤ 16) : FOk (insAt l x) :=
  ⟨insAt_sorted h.srt (dAt_none hx), by rw [(insAt_perm l x).length_eq, List.length_cons]; omega, fun f hf => by
    rcases List.mem_cons.1 ((insAt_perm l x).mem_iff.1 hf) with rfl | hf
    · exact ⟨h1, h2⟩
    · exact h.each f hf⟩
theorem FOk.set {l : List FileD} (h : FOk l) {i : Nat} {x y : FileD} (hi : l[i]? = some x) (e : y.name = x.name) (h2 : y.text.size ≤ 16) : FOk (l.set i y) :=
  ⟨h.srt.set hi e, by rw [List.length_set]; exact h.len, fun f hf => by
    rcases List.mem_or_eq_of_mem_set hf with hf | rfl
    · exact h.each f hf
    · exact ⟨by rw [e]; exact (h.each x (List.mem_of_getElem? hi)).1, h2⟩⟩

/-- what a code of 0 says of a call -/
theorem callCode_name {c : Call} (h : callCode c = 0) (h6 : c.kind ≠ 6) : okText 97 122 5 c.name = true := by
  unfold callCode at h
  split at h
  · cases h
  split at h
  · cases h
  split at h
  · cases h
  · rename_i hn
    cases hb : okText 97 122 5 c.name with
    | true => rfl
    | false => exact (hn (.inl ⟨h6, hb⟩)).elim
theorem callCode_to {c : Call} (h : callCode c = 0) (h3 : c.kind = 3) : okText 97 122 5 c.to_ = true := by
  unfold callCode at h
  split at h
  · cases h
  split at h
  · cases h
  split at h
  · cases h
  · rename_i hn
    cases hb : okText 97 122 5 c.to_ with
    | true => rfl
    | false => exact (hn (.inr ⟨h3, hb⟩)).elim
theorem callCode_kind {c : Call} (h : callCode c = 0) : 1 ≤ c.kind ∧ c.kind ≤ 6 := by
  unfold callCode at h
  split at h
  · cases h
  · omega
theorem noText_toList : noText.toList = [] := by rw [ByteArray.toList_eq]; rfl
theorem empty_of {s : ByteArray} (h : s.toList.isEmpty = true) : s = noText := toList_inj (by rw [List.isEmpty_iff.1 h, noText_toList])
theorem callCode_form {c : Call} (h : callCode c = 0) : (c.kind = 6 → c.name = noText) ∧ (c.kind ≠ 3 → c.to_ = noText) ∧ (c.kind ≠ 4 → c.text = noText) := by
  unfold callCode at h
  split at h
  · cases h
  split at h
  · cases h
  · rename_i hf
    refine ⟨fun h6 => ?_, fun h3 => ?_, fun h4 => ?_⟩
    · cases hb : c.name.toList.isEmpty with
      | true => exact empty_of hb
      | false => exact (hf (.inl ⟨h6, hb⟩)).elim
    · cases hb : c.to_.toList.isEmpty with
      | true => exact empty_of hb
      | false => exact (hf (.inr (.inl ⟨h3, hb⟩))).elim
    · cases hb : c.text.toList.isEmpty with
      | true => exact empty_of hb
      | false => exact (hf (.inr (.inr ⟨h4, hb⟩))).elim
theorem callCode_text {c : Call} (h : callCode c = 0) (h4 : c.kind = 4) : okText 32 126 8 c.text = true := by
  unfold callCode at h
  split at h
  · cases h
  split at h
  · cases h
  split at h
  · cases h
  split at h
  · cases h
  · rename_i hn
    cases hb : okText 32 126 8 c.text with
    | true => rfl
    | false => exact (hn ⟨h4, hb⟩).elim

theorem callCode_bounds {c : Call} (h : callCode c ≠ 0) : 0 < callCode c ∧ callCode c ≤ 99 := by
  unfold callCode at h ⊢
  split
  · decide
  split
  · decide
  split
  · decide
  split
  · decide
  · rename_i h1 h2 h3 h4
    rw [if_neg h1, if_neg h2, if_neg h3, if_neg h4] at h
    exact (h rfl).elim
/-- a call of files, in all its ways -/
def FWay (l : List FileD) (c : Call) (r : Answer × List FileD) : Prop :=
  (∃ k : Int, (0 < k ∧ k ≤ 99) ∧ r = (ans k, l)) ∨
  (callCode c = 0 ∧ c.kind = 6 ∧ r = (⟨0, joinSp (l.map (·.name))⟩, l)) ∨
  (callCode c = 0 ∧ c.kind = 1 ∧ dAt l c.name = none ∧ l.length < 6 ∧ r = (ans 0, insAt l ⟨c.name, noText⟩)) ∨
  (callCode c = 0 ∧ c.kind = 5 ∧ ∃ i x, dAt l c.name = some i ∧ l[i]? = some x ∧ x.name = c.name ∧ r = (⟨0, x.text⟩, l)) ∨
  (callCode c = 0 ∧ c.kind = 4 ∧ ∃ i x, dAt l c.name = some i ∧ l[i]? = some x ∧ x.name = c.name ∧ x.text.size + c.text.size ≤ 16 ∧ r = (ans 0, l.set i ⟨x.name, x.text ++ c.text⟩)) ∨
  (callCode c = 0 ∧ c.kind = 3 ∧ ∃ i x, dAt l c.name = some i ∧ l[i]? = some x ∧ x.name = c.name ∧ dAt l c.to_ = none ∧ r = (ans 0, insAt (l.eraseIdx i) ⟨c.to_, x.text⟩)) ∨
  (callCode c = 0 ∧ c.kind = 2 ∧ ∃ i x, dAt l c.name = some i ∧ l[i]? = some x ∧ x.name = c.name ∧ r = (ans 0, l.eraseIdx i))
theorem fdo_way (l : List FileD) (c : Call) : FWay l c (fdo l c) := by
  unfold fdo
  by_cases h0 : callCode c ≠ 0
  · rw [if_pos h0]; exact .inl ⟨_, callCode_bounds h0, rfl⟩
  rw [if_neg h0]
  have h0' : callCode c = 0 := by simpa using h0
  have hk := callCode_kind h0'
  by_cases h6 : c.kind = 6
  · rw [if_pos h6]; exact .inr (.inl ⟨h0', h6, rfl⟩)
  rw [if_neg h6]
  by_cases h1 : c.kind = 1
  · rw [if_pos h1]
    cases hl : dAt l c.name with
    | none =>
      by_cases h7 : 6 ≤ l.length
      · simp only [if_pos h7]; exact .inl ⟨_, by decide, rfl⟩
      · simp only [if_neg h7]; exact .inr (.inr (.inl ⟨h0', h1, hl, by omega, rfl⟩))
    | some i => exact .inl ⟨_, by decide, rfl⟩
  rw [if_neg h1]
  cases hl : dAt l c.name with
  | none => exact .inl ⟨_, by decide, rfl⟩
  | some i =>
    obtain ⟨x, hx, hn, _⟩ := dAt_some hl
    simp only [hx]
    by_cases h5 : c.kind = 5
    · simp only [if_pos h5]; exact .inr (.inr (.inr (.inl ⟨h0', h5, i, x, hl, hx, hn, rfl⟩)))
    simp only [if_neg h5]
    by_cases h4 : c.kind = 4
    · simp only [if_pos h4]
      by_cases hs : 16 < x.text.size + c.text.size
      · simp only [if_pos hs]; exact .inl ⟨_, by decide, rfl⟩
      · simp only [if_neg hs]; exact .inr (.inr (.inr (.inr (.inl ⟨h0', h4, i, x, hl, hx, hn, by omega, rfl⟩))))
    simp only [if_neg h4]
    by_cases h3 : c.kind = 3
    · simp only [if_pos h3]
      cases ht : dAt l c.to_ with
      | none => exact .inr (.inr (.inr (.inr (.inr (.inl ⟨h0', h3, i, x, hl, hx, hn, ht, rfl⟩)))))
      | some k => exact .inl ⟨_, by decide, rfl⟩
    · simp only [if_neg h3]; exact .inr (.inr (.inr (.inr (.inr (.inr ⟨h0', by omega, i, x, hl, hx, hn, rfl⟩)))))

theorem dAt_erase {l : List FileD} {i : Nat} {n : ByteArray} (h : dAt l n = none) : dAt (l.eraseIdx i) n = none := dAt_none' fun f hf => dAt_none h f ((List.eraseIdx_sublist l i).subset hf)
theorem FWay.ok {l : List FileD} {c : Call} {r : Answer × List FileD} (h : FWay l c r) (hl : FOk l) : FOk r.2 := by
  rcases h with ⟨k, _, rfl⟩ | ⟨_, _, rfl⟩ | ⟨h0, h, hn, hlen, rfl⟩ | ⟨_, _, i, x, hi, hx, e, rfl⟩ | ⟨h0, h, i, x, hi, hx, e, hs, rfl⟩ | ⟨h0, h, i, x, hi, hx, e, ht, rfl⟩ | ⟨h0, h, i, x, hi, hx, e, rfl⟩
  · exact hl
  · exact hl
  · exact hl.insert hlen hn (callCode_name h0 (by omega)) (by show (0 : Nat) ≤ 16; omega)
  · exact hl
  · exact hl.set hx rfl (by show (x.text ++ c.text).size ≤ 16; rw [ByteArray.size_append]; exact hs)
  · have hx' := (hl.each x (List.mem_of_getElem? hx)).2
    have hlt := (List.getElem?_eq_some_iff.1 hx).1
    exact (hl.sublist (List.eraseIdx_sublist l i)).insert (by rw [List.length_eraseIdx_of_lt hlt]; have := hl.len; omega) (dAt_erase ht) (callCode_to h0 h) hx'
  · exact hl.sublist (List.eraseIdx_sublist l i)
theorem fdo_ok {l : List FileD} (h : FOk l) (c : Call) : FOk (fdo l c).2 := (fdo_way l c).ok h
def fdos (l : List FileD) (cs : List Call) : List FileD := cs.foldl (fun l c => (fdo l c).2) l
theorem fdos_ok {l : List FileD} (h : FOk l) (cs : List Call) : FOk (fdos l cs) := by
  induction cs generalizing l with
  | nil => exact h
  | cons c cs ih => exact ih (fdo_ok h c)
theorem fdos_take {l : List FileD} {cs : List Call} {k : Nat} {c : Call} (h : cs[k]? = some c) : fdos l (cs.take (k + 1)) = (fdo (fdos l (cs.take k)) c).2 := by
  unfold fdos
  rw [List.take_add_one, h]
  simp

/-! ### Reading -/
def readOf (n : ByteArray) : Call := ⟨5, n, noText, noText⟩
theorem callCode_read {n : ByteArray} (h : okText 97 122 5 n = true) : callCode (readOf n) = 0 := by
  unfold callCode readOf
  simp [h, noText_toList]
theorem fdo_read {l : List FileD} (h : FOk l) {k : Nat} {x : FileD} (hx : l[k]? = some x) : fdo l (readOf x.name) = (⟨0, x.text⟩, l) := by
  have h1 := (h.each x (List.mem_of_getElem? hx)).1
  have h2 := dAt_of h.srt.names hx
  unfold fdo
  rw [if_neg (by simp [callCode_read h1])]
  show (if (5 : Int) = 6 then _ else if (5 : Int) = 1 then _ else match dAt l x.name with | none => _ | some i => match l[i]? with | none => _ | some x => if (5 : Int) = 5 then _ else _) = _
  rw [if_neg (by decide), if_neg (by decide), h2]
  simp only [hx]
  rfl
end Go.Proofs.Ytalfbhhldfffkab
