/- LineQ: a text parted at its first two blanks; words by their place. No program is walked here. -/
import Derived.Test.YtalfbhhldfffkabDoorLineP
import Derived.Lib.IndexBytes
import Derived.Lib.Split
namespace Go.Proofs.YtalfbhhldfffkabDoor
open Go.RowKit

def pieces (s : List UInt8) : List (List UInt8) :=
  if (wordOf s).2.2 = true then (wordOf s).1 :: (if (wordOf (wordOf s).2.1).2.2 = true then [(wordOf (wordOf s).2.1).1, (wordOf (wordOf s).2.1).2.1] else [(wordOf s).2.1]) else [s]
theorem wordOf_cons (b : UInt8) (l : List UInt8) (hb : b ≠ 32) : wordOf (b :: l) = (b :: (wordOf l).1, (wordOf l).2.1, (wordOf l).2.2) := by
  unfold wordOf
  rw [List.takeWhile_cons, if_pos (by simpa using hb), List.dropWhile_cons, if_pos (by simpa using hb)]
  simp [hb]
theorem index_word (s : List UInt8) : Lib.index s [32] = if (wordOf s).2.2 = true then ((wordOf s).1.length : Int) else -1 := by
  rw [Lib.index_one]
  induction s with
  | nil => rfl
  | cons b l ih =>
    unfold Lib.indexByte
    by_cases hb : b = 32
    · subst hb
      have h := wordOf_append (w := []) (fun b hb => by cases hb) l
      simp only [List.nil_append] at h
      rw [h]
      simp
    · rw [wordOf_cons b l hb, ih]
      have : (b == 32) = false := by simpa using hb
      rw [this]
      by_cases h2 : (wordOf l).2.2 = true
      · simp only [h2, if_true]
        rw [if_neg (by simp), if_neg (by simp <;> omega)]
        simp
      · simp [h2]
theorem take_of {s a r : List UInt8} (e : s = a ++ 32 :: r) : s.take (a.length + 0) = a := by subst e; simp
theorem drop_of {s a r : List UInt8} (e : s = a ++ 32 :: r) : s.drop (a.length + 1) = r := by subst e; rw [List.drop_append]; simp
theorem splitK_next (k : Nat) (s : List UInt8) : Lib.splitK [32] 0 (k + 1) s = if (wordOf s).2.2 = true then (wordOf s).1 :: Lib.splitK [32] 0 k (wordOf s).2.1 else [s] := by
  unfold Lib.splitK
  rw [index_word]
  by_cases h : (wordOf s).2.2 = true
  · have e := wordOf_true h
    rw [if_pos h, if_pos h, if_neg (by simp <;> omega)]
    have h1 := take_of e
    have h2 := drop_of e
    simp only [Int.toNat_natCast, List.length_cons, List.length_nil]
    rw [h1, h2]
    cases k <;> rfl
  · simp [h]
theorem splitK_zero (s : List UInt8) : Lib.splitK [32] 0 0 s = [s] := rfl
theorem wordOf_len {s : List UInt8} (h : (wordOf s).2.2 = true) : (wordOf s).2.1.length + 1 ≤ s.length := by
  have e := congrArg List.length (wordOf_true h)
  simp at e
  omega
theorem wordOf_nil : (wordOf []).2.2 = false := rfl
theorem pieces_split (s : List UInt8) : Lib.splitK [32] 0 (min 3 (s.length + 1) - 1) s = pieces s := by
  have step : ∀ t : List UInt8, Lib.splitK [32] 0 2 t = pieces t := fun t => by
    rw [show (2 : Nat) = 1 + 1 from rfl, splitK_next, splitK_next (0 : Nat)]
    rfl
  match s with
  | [] => rfl
  | [b] =>
    show Lib.splitK [32] 0 (0 + 1) [b] = _
    rw [splitK_next]
    unfold pieces
    by_cases h : (wordOf [b]).2.2 = true
    · have hl : (wordOf [b]).2.1.length + 1 ≤ 1 := wordOf_len h
      have e : (wordOf [b]).2.1 = [] := List.eq_nil_of_length_eq_zero (by omega)
      rw [if_pos h, if_pos h, e, if_neg (by rw [wordOf_nil]; decide)]
      rfl
    · rw [if_neg h, if_neg h]
  | a :: b :: l =>
    rw [show min 3 ((a :: b :: l).length + 1) - 1 = 2 by simp only [List.length_cons]; omega]
    exact step _
theorem pieces_head (s : List UInt8) : (pieces s)[0]? = some (wordOf s).1 := by
  unfold pieces
  split
  · rfl
  · rename_i h
    rw [wordOf_none (wordOf_false (by simpa using h))]
    rfl
theorem pieces_len (s : List UInt8) : (pieces s).length = if (wordOf s).2.2 = true then (if (wordOf (wordOf s).2.1).2.2 = true then 3 else 2) else 1 := by
  unfold pieces
  split
  · split <;> rfl
  · rfl
theorem pieces_one {s : List UInt8} (h : (wordOf s).2.2 = true) : (pieces s)[1]? = some (wordOf (wordOf s).2.1).1 := by
  unfold pieces
  rw [if_pos h]
  split
  · rfl
  · rename_i h2
    rw [wordOf_none (w := (wordOf s).2.1) (wordOf_false (by simpa using h2))]
    rfl
theorem pieces_two {s : List UInt8} (h : (wordOf s).2.2 = true) (h2 : (wordOf (wordOf s).2.1).2.2 = true) : (pieces s)[2]? = some (wordOf (wordOf s).2.1).2.1 := by
  unfold pieces
  rw [if_pos h, if_pos h2]
  rfl
/-- the words, by their place -/
def wordsL : List ByteArray := [⟨#[]⟩, ⟨#[109, 97, 107, 101]⟩, ⟨#[114, 101, 109, 111, 118, 101]⟩, ⟨#[114, 101, 110, 97, 109, 101]⟩, ⟨#[97, 112, 112, 101, 110, 100]⟩, ⟨#[114, 101, 97, 100]⟩, ⟨#[108, 105, 115, 116]⟩]
def idxOf (l : List ByteArray) (v : ByteArray) : Int := match l.findIdx? (fun x => decide (x = v)) with | some i => (i : Int) | none => -1
def idxUpto (l : List ByteArray) (v : ByteArray) (k : Nat) : Prop := ∀ x ∈ l.take k, x ≠ v
theorem mkStr_inj {a b : List UInt8} (h : mkStr a = mkStr b) : a = b := by rw [← mkStr_toList a, h, mkStr_toList]
theorem idx_word (w : List UInt8) : (idxOf wordsL (mkStr w) < 1 ↔ lineKind w = 0) ∧ (lineKind w ≠ 0 → idxOf wordsL (mkStr w) = lineKind w) := by
  by_cases h : w = wMake ∨ w = wRemove ∨ w = wRename ∨ w = wAppend ∨ w = wRead ∨ w = wList
  · rcases h with rfl | rfl | rfl | rfl | rfl | rfl <;> exact ⟨by decide +kernel, by decide +kernel⟩
  · have h0 : lineKind w = 0 := by
      unfold lineKind
      rw [if_neg (fun e => h (.inl e)), if_neg (fun e => h (.inr (.inl e))), if_neg (fun e => h (.inr (.inr (.inl e)))), if_neg (fun e => h (.inr (.inr (.inr (.inl e))))), if_neg (fun e => h (.inr (.inr (.inr (.inr (.inl e)))))), if_neg (fun e => h (.inr (.inr (.inr (.inr (.inr e))))))]
    refine ⟨⟨fun _ => h0, fun _ => ?_⟩, fun e => (e h0).elim⟩
    unfold idxOf
    cases hf : wordsL.findIdx? (fun x => decide (x = mkStr w)) with
    | none => decide
    | some i =>
      obtain ⟨hi, he, _⟩ := List.findIdx?_eq_some_iff_getElem.1 hf
      have he' : wordsL[i] = mkStr w := by simpa using he
      have hi' : i < 7 := hi
      obtain rfl | rfl | rfl | rfl | rfl | rfl | rfl : i = 0 ∨ i = 1 ∨ i = 2 ∨ i = 3 ∨ i = 4 ∨ i = 5 ∨ i = 6 := by omega
      · decide
      · exact (h (.inl (mkStr_inj (he'.symm.trans rfl)))).elim
      · exact (h (.inr (.inl (mkStr_inj (he'.symm.trans rfl))))).elim
      · exact (h (.inr (.inr (.inl (mkStr_inj (he'.symm.trans rfl)))))).elim
      · exact (h (.inr (.inr (.inr (.inl (mkStr_inj (he'.symm.trans rfl))))))).elim
      · exact (h (.inr (.inr (.inr (.inr (.inl (mkStr_inj (he'.symm.trans rfl)))))))).elim
      · exact (h (.inr (.inr (.inr (.inr (.inr (mkStr_inj (he'.symm.trans rfl)))))))).elim
/-- what a line's call would be, ahead of its check -/
theorem parsed_kind (s : List UInt8) : parsed s = (let k := lineKind (wordOf s).1; if k = 0 then none else if (pieces s).length ≠ (if k = 6 then 1 else if k = 3 ∨ k = 4 then 3 else 2) then none else
    some ⟨k, if k = 6 then noText else mkStr (wordOf (wordOf s).2.1).1, if k = 3 then mkStr (wordOf (wordOf s).2.1).2.1 else noText, if k = 4 then mkStr (wordOf (wordOf s).2.1).2.1 else noText⟩) := by
  rw [pieces_len]
  unfold parsed
  simp only
  generalize lineKind (wordOf s).1 = k
  by_cases h6 : k = 6
  · subst h6
    cases (wordOf s).2.2 <;> cases (wordOf (wordOf s).2.1).2.2 <;> simp
  by_cases h3 : k = 3
  · subst h3
    cases (wordOf s).2.2 <;> cases (wordOf (wordOf s).2.1).2.2 <;> simp
  by_cases h4 : k = 4
  · subst h4
    cases (wordOf s).2.2 <;> cases (wordOf (wordOf s).2.1).2.2 <;> simp
  by_cases h0 : k = 0
  · subst h0
    simp
  · cases (wordOf s).2.2 <;> cases (wordOf (wordOf s).2.1).2.2 <;> simp [h6, h3, h4, h0]
end Go.Proofs.YtalfbhhldfffkabDoor
