/- LineP: calls and answers as lines, in plain terms, and their laws. No program is walked here. -/
import Derived.Test.YtalfbhhldfffkabDoorGPlain
import Derived.Lib.ItoaNum
namespace Go.Proofs.YtalfbhhldfffkabDoor
open Go.RowKit

def wMake : List UInt8 := [109, 97, 107, 101]
def wRemove : List UInt8 := [114, 101, 109, 111, 118, 101]
def wRename : List UInt8 := [114, 101, 110, 97, 109, 101]
def wAppend : List UInt8 := [97, 112, 112, 101, 110, 100]
def wRead : List UInt8 := [114, 101, 97, 100]
def wList : List UInt8 := [108, 105, 115, 116]
/-- a kind's word -/
def kindWord (k : Int) : List UInt8 := if k = 1 then wMake else if k = 2 then wRemove else if k = 3 then wRename else if k = 4 then wAppend else if k = 5 then wRead else wList
def lineKind (w : List UInt8) : Int := if w = wMake then 1 else if w = wRemove then 2 else if w = wRename then 3 else if w = wAppend then 4 else if w = wRead then 5 else if w = wList then 6 else 0
/-- a call's line -/
def callLine (c : Call) : List UInt8 :=
  kindWord c.kind ++ ((if c.kind = 6 then [] else 32 :: c.name.toList) ++ (if c.kind = 3 then 32 :: c.to_.toList else if c.kind = 4 then 32 :: c.text.toList else []))
def callText (c : Call) : ByteArray × Int := if callCode c ≠ 0 then (noText, callCode c) else (mkStr (callLine c), 0)

/-- what stands ahead of the first blank, what behind it; is there one? -/
def wordOf (s : List UInt8) : List UInt8 × List UInt8 × Bool := (s.takeWhile (fun b => b != 32), (s.dropWhile (fun b => b != 32)).tail, s.any (fun b => b == 32))
def NoBlank (w : List UInt8) : Prop := ∀ b ∈ w, b ≠ 32
theorem tw_self {w : List UInt8} (h : NoBlank w) : w.takeWhile (fun b => b != 32) = w := by
  induction w with
  | nil => rfl
  | cons b w ih => rw [List.takeWhile_cons, if_pos (by simpa using h b List.mem_cons_self), ih fun x hx => h x (List.mem_cons_of_mem _ hx)]
theorem dw_self {w : List UInt8} (h : NoBlank w) : w.dropWhile (fun b => b != 32) = [] := by
  induction w with
  | nil => rfl
  | cons b w ih => rw [List.dropWhile_cons, if_pos (by simpa using h b List.mem_cons_self), ih fun x hx => h x (List.mem_cons_of_mem _ hx)]
theorem wordOf_append {w : List UInt8} (h : NoBlank w) (r : List UInt8) : wordOf (w ++ 32 :: r) = (w, r, true) := by
  have h1 : w.takeWhile (fun b => b != 32) = w := tw_self h
  have h2 : w.dropWhile (fun b => b != 32) = [] := dw_self h
  unfold wordOf
  rw [List.takeWhile_append, List.dropWhile_append, h1, h2]
  simp
theorem wordOf_none {w : List UInt8} (h : NoBlank w) : wordOf w = (w, [], false) := by
  have h1 : w.takeWhile (fun b => b != 32) = w := tw_self h
  have h2 : w.dropWhile (fun b => b != 32) = [] := dw_self h
  have h3 : w.any (fun b => b == 32) = false := List.any_eq_false.2 fun b hb => by simpa using h b hb
  unfold wordOf
  rw [h1, h2, h3]
  rfl
theorem wordOf_fst (s : List UInt8) : NoBlank (wordOf s).1 := fun b hb => by
  have := mem_takeWhile hb
  simpa using this
theorem wordOf_true {s : List UInt8} (h : (wordOf s).2.2 = true) : s = (wordOf s).1 ++ 32 :: (wordOf s).2.1 := by
  unfold wordOf at h ⊢
  simp only at h ⊢
  have e := List.takeWhile_append_dropWhile (p := fun b : UInt8 => b != 32) (l := s)
  generalize ha : s.takeWhile (fun b => b != 32) = a at *
  cases hd : s.dropWhile (fun b => b != 32) with
  | nil =>
    rw [hd, List.append_nil] at e
    obtain ⟨b, hb, hb2⟩ := List.any_eq_true.1 h
    rw [← e, ← ha] at hb
    have := mem_takeWhile hb
    simp at this hb2
    exact (this hb2).elim
  | cons b r =>
    have hb : (fun b : UInt8 => b != 32) b = false := by
      have := List.head?_dropWhile_not (fun b : UInt8 => b != 32) s
      rw [hd] at this
      simpa using this
    have hb' : b = 32 := by simpa using hb
    rw [hd, hb'] at e
    rw [List.tail_cons]
    exact e.symm
theorem wordOf_false {s : List UInt8} (h : (wordOf s).2.2 = false) : NoBlank s := fun b hb e => by
  unfold wordOf at h
  have := List.any_eq_false.1 h b hb
  simp [e] at this

def parsed (s : List UInt8) : Option Call :=
  if lineKind (wordOf s).1 = 6 then (if (wordOf s).2.2 = true then none else some ⟨6, noText, noText, noText⟩)
  else if lineKind (wordOf s).1 = 3 then (if (wordOf s).2.2 = true ∧ (wordOf (wordOf s).2.1).2.2 = true then some ⟨3, mkStr (wordOf (wordOf s).2.1).1, mkStr (wordOf (wordOf s).2.1).2.1, noText⟩ else none)
  else if lineKind (wordOf s).1 = 4 then (if (wordOf s).2.2 = true ∧ (wordOf (wordOf s).2.1).2.2 = true then some ⟨4, mkStr (wordOf (wordOf s).2.1).1, noText, mkStr (wordOf (wordOf s).2.1).2.1⟩ else none)
  else if lineKind (wordOf s).1 = 0 then none
  else (if (wordOf s).2.2 = true ∧ (wordOf (wordOf s).2.1).2.2 = false then some ⟨lineKind (wordOf s).1, mkStr (wordOf (wordOf s).2.1).1, noText, noText⟩ else none)
def callOf (s : List UInt8) : Call × Int :=
  match parsed s with
  | none => (Call.zero, 12)
  | some c => if callCode c ≠ 0 then (Call.zero, callCode c) else (c, 0)

theorem noBlank_mono {a b : List UInt8} (h : NoBlank b) (hs : ∀ x ∈ a, x ∈ b) : NoBlank a := fun x hx => h x (hs x hx)
theorem okText_all {lo hi m : Nat} {s : ByteArray} (h : okText lo hi m s = true) : ∀ b ∈ s.toList, lo ≤ b.toNat ∧ b.toNat ≤ hi := fun b hb => by
  unfold okText at h
  rw [Bool.and_eq_true, List.all_eq_true] at h
  simpa using h.1 b hb
theorem name_noBlank {s : ByteArray} (h : okText 97 122 5 s = true) : NoBlank s.toList := fun b hb e => by
  have := (okText_all h b hb).1
  subst e
  exact absurd this (by decide)
theorem kindWord_noBlank (k : Int) : NoBlank (kindWord k) := fun b hb => by
  unfold kindWord wMake wRemove wRename wAppend wRead wList at hb
  intro e
  subst e
  split at hb
  · simp at hb
  split at hb
  · simp at hb
  split at hb
  · simp at hb
  split at hb
  · simp at hb
  split at hb <;> simp at hb
theorem lineKind_word {k : Int} (h : 1 ≤ k ∧ k ≤ 6) : lineKind (kindWord k) = k := by
  obtain rfl | rfl | rfl | rfl | rfl | rfl : k = 1 ∨ k = 2 ∨ k = 3 ∨ k = 4 ∨ k = 5 ∨ k = 6 := by omega
  all_goals decide
theorem kindWord_of {w : List UInt8} {k : Int} (h : lineKind w = k) (hk : k ≠ 0) : kindWord k = w ∧ 1 ≤ k ∧ k ≤ 6 := by
  unfold lineKind at h
  split at h
  · subst h; rename_i e; exact ⟨e ▸ rfl, by decide, by decide⟩
  split at h
  · subst h; rename_i e; exact ⟨e ▸ rfl, by decide, by decide⟩
  split at h
  · subst h; rename_i e; exact ⟨e ▸ rfl, by decide, by decide⟩
  split at h
  · subst h; rename_i e; exact ⟨e ▸ rfl, by decide, by decide⟩
  split at h
  · subst h; rename_i e; exact ⟨e ▸ rfl, by decide, by decide⟩
  split at h
  · subst h; rename_i e; exact ⟨e ▸ rfl, by decide, by decide⟩
  · exact (hk h.symm).elim

/-- THERE AND BACK -/
theorem parsed_line {c : Call} (h : callCode c = 0) : parsed (callLine c) = some c := by
  obtain ⟨k, n, t, x⟩ := c
  obtain ⟨f6, f3, f4⟩ := callCode_form h
  have hk := callCode_kind h
  have hn := callCode_name h
  have ht := callCode_to h
  simp only at f6 f3 f4 hk hn ht
  have hw := lineKind_word hk
  have hb := kindWord_noBlank k
  by_cases h6 : k = 6
  · subst h6
    rw [f6 rfl, f3 (by decide), f4 (by decide)]
    have e : callLine ⟨6, noText, noText, noText⟩ = kindWord 6 := by simp [callLine]
    rw [e]
    unfold parsed
    rw [wordOf_none hb]
    simp only [hw]
    rfl
  have hnb := name_noBlank (hn h6)
  by_cases h3 : k = 3
  · subst h3
    rw [f4 (by decide)]
    have e : callLine ⟨3, n, t, noText⟩ = kindWord 3 ++ 32 :: (n.toList ++ 32 :: t.toList) := by simp [callLine]
    rw [e]
    unfold parsed
    rw [wordOf_append hb]
    simp only
    rw [wordOf_append hnb, hw, if_neg (by decide), if_pos rfl, if_pos (by simp)]
    simp only [mkStr_of]
  by_cases h4 : k = 4
  · subst h4
    rw [f3 (by decide)]
    have e : callLine ⟨4, n, noText, x⟩ = kindWord 4 ++ 32 :: (n.toList ++ 32 :: x.toList) := by simp [callLine]
    rw [e]
    unfold parsed
    rw [wordOf_append hb]
    simp only
    rw [wordOf_append hnb, hw, if_neg (by decide), if_neg (by decide), if_pos rfl, if_pos (by simp)]
    simp only [mkStr_of]
  · rw [f3 h3, f4 h4]
    have e : callLine ⟨k, n, noText, noText⟩ = kindWord k ++ 32 :: n.toList := by simp [callLine, h6, h3, h4]
    rw [e]
    unfold parsed
    rw [wordOf_append hb]
    simp only
    rw [wordOf_none hnb, hw, if_neg h6, if_neg h3, if_neg h4, if_neg (by omega), if_pos (by simp)]
    simp only [mkStr_of]
theorem line_parsed {s : List UInt8} {c : Call} (h : parsed s = some c) : callLine c = s := by
  unfold parsed at h
  have hw := fun k => kindWord_of (w := (wordOf s).1) (k := k)
  generalize hk : lineKind (wordOf s).1 = k at h
  split at h
  · rename_i h6
    split at h
    · cases h
    · rename_i hm
      injection h with h
      subst h
      have e := (wordOf_none (wordOf_false (by simpa using hm)))
      rw [e] at hw hk
      have := (hw 6 (by rw [hk, h6]) (by decide)).1
      unfold callLine
      simpa using this
  split at h
  · rename_i h6 h3
    split at h
    · rename_i hm
      injection h with h
      subst h
      have e1 := wordOf_true hm.1
      have e2 := wordOf_true hm.2
      have := (hw 3 (by rw [hk, h3]) (by decide)).1
      unfold callLine
      rw [if_neg (by show ¬ (3 : Int) = 6; decide), if_pos rfl]
      simp only [this, mkStr_toList]
      rw [List.cons_append, ← e2, ← e1]
    · cases h
  split at h
  · rename_i h6 h3 h4
    split at h
    · rename_i hm
      injection h with h
      subst h
      have e1 := wordOf_true hm.1
      have e2 := wordOf_true hm.2
      have := (hw 4 (by rw [hk, h4]) (by decide)).1
      unfold callLine
      rw [if_neg (by show ¬ (4 : Int) = 6; decide), if_neg (by show ¬ (4 : Int) = 3; decide), if_pos rfl]
      simp only [this, mkStr_toList]
      rw [List.cons_append, ← e2, ← e1]
    · cases h
  split at h
  · cases h
  · rename_i h6 h3 h4 h0
    split at h
    · rename_i hm
      injection h with h
      subst h
      have e1 := wordOf_true hm.1
      have e2 := wordOf_none (wordOf_false hm.2)
      have hkw := hw k hk h0
      unfold callLine
      simp only [mkStr_toList]
      rw [if_neg h6, if_neg h3, if_neg h4, List.append_nil, hkw.1]
      rw [e2]
      exact e1.symm
    · cases h
theorem callOf_text {c : Call} (h : callCode c = 0) : callOf (callLine c) = (c, 0) := by
  unfold callOf
  rw [parsed_line h]
  simp [h]
theorem callOf_zero {s : List UInt8} (h : (callOf s).2 = 0) : callCode (callOf s).1 = 0 ∧ callLine (callOf s).1 = s := by
  unfold callOf at h ⊢
  cases hp : parsed s with
  | none => rw [hp] at h; simp at h
  | some c =>
    rw [hp] at h
    by_cases hc : callCode c ≠ 0
    · simp only [if_pos hc] at h; exact (hc h).elim
    · simp only [if_neg hc]
      exact ⟨by simpa using hc, line_parsed hp⟩
theorem callOf_code {s : List UInt8} (h : (callOf s).2 ≠ 0) : (callOf s).1 = Call.zero := by
  unfold callOf at h ⊢
  cases hp : parsed s with
  | none => rfl
  | some c =>
    rw [hp] at h
    by_cases hc : callCode c ≠ 0
    · simp only [if_pos hc]
    · simp only [if_neg hc] at h; exact (h rfl).elim
theorem callLine_inj {c d : Call} (hc : callCode c = 0) (hd : callCode d = 0) (h : callLine c = callLine d) : c = d := by
  have h1 := parsed_line hc
  rw [h, parsed_line hd] at h1
  exact (Option.some.inj h1).symm
/-- a call's line has shown bytes alone -/
theorem callLine_shown {c : Call} (h : callCode c = 0) : ∀ b ∈ callLine c, 32 ≤ b.toNat ∧ b.toNat ≤ 126 := by
  have hk := callCode_kind h
  have hn := callCode_name h
  have ht := callCode_to h
  have hx := callCode_text h
  intro b hb
  unfold callLine at hb
  rw [List.mem_append, List.mem_append] at hb
  rcases hb with hb | hb | hb
  · have : (kindWord c.kind).all (fun b => decide (32 ≤ b.toNat) && decide (b.toNat ≤ 126)) = true := by
      generalize c.kind = k at *
      obtain rfl | rfl | rfl | rfl | rfl | rfl : k = 1 ∨ k = 2 ∨ k = 3 ∨ k = 4 ∨ k = 5 ∨ k = 6 := by omega
      all_goals decide
    simpa using List.all_eq_true.1 this b hb
  · split at hb
    · simp at hb
    · rename_i h6
      rcases List.mem_cons.1 hb with rfl | hb
      · decide
      · have := okText_all (hn h6) b hb; omega
  · split at hb
    · rename_i h3
      rcases List.mem_cons.1 hb with rfl | hb
      · decide
      · have := okText_all (ht h3) b hb; omega
    split at hb
    · rename_i h3 h4
      rcases List.mem_cons.1 hb with rfl | hb
      · decide
      · exact okText_all (hx h4) b hb
    · simp at hb

/-! ### Numerals, answers -/
def valOf (l : List UInt8) : Nat := l.foldl (fun n b => n * 10 + (b.toNat - 48)) 0
theorem valOf_append (l : List UInt8) (b : UInt8) : valOf (l ++ [b]) = valOf l * 10 + (b.toNat - 48) := by simp [valOf]
theorem digit_toNat {i : Nat} (h : i < 10) : (UInt8.ofNat (48 + i)).toNat = 48 + i := by
  rw [UInt8.toNat_ofNat']; omega
theorem decDigits_val (u : Nat) : valOf (Lib.decDigits u) = u := by
  induction u using Nat.strongRecOn with
  | _ u ih =>
    by_cases h : u < 10
    · rw [Lib.decDigits, dif_pos h]
      simp only [valOf, List.foldl_cons, List.foldl_nil]
      rw [digit_toNat h]; omega
    · rw [Lib.decDigits, dif_neg h, valOf_append, ih _ (by omega), digit_toNat (by omega)]
      omega
theorem decDigits_in (u : Nat) : ∀ b ∈ Lib.decDigits u, 48 ≤ b.toNat ∧ b.toNat ≤ 57 := by
  induction u using Nat.strongRecOn with
  | _ u ih =>
    intro b hb
    by_cases h : u < 10
    · rw [Lib.decDigits, dif_pos h] at hb
      rw [List.mem_singleton] at hb
      rw [hb, digit_toNat h]; omega
    · rw [Lib.decDigits, dif_neg h, List.mem_append, List.mem_singleton] at hb
      rcases hb with hb | hb
      · exact ih _ (by omega) b hb
      · rw [hb, digit_toNat (by omega)]; omega
theorem itoa_noBlank (n : Int) : NoBlank (Lib.itoa n) := fun b hb e => by
  subst e
  unfold Lib.itoa at hb
  split at hb
  · rcases List.mem_cons.1 hb with hb | hb
    · exact absurd hb (by decide)
    · have := (decDigits_in _ _ hb).1; exact absurd this (by decide)
  · have := (decDigits_in _ _ hb).1; exact absurd this (by decide)
theorem decDigits_ne (u : Nat) : Lib.decDigits u ≠ [] := by
  rw [Lib.decDigits]
  split <;> simp
theorem itoa_inj {n m : Int} (h : Lib.itoa n = Lib.itoa m) : n = m := by
  have key : ∀ u v : Nat, (45 : UInt8) :: Lib.decDigits u ≠ Lib.decDigits v := fun u v e => by
    have := decDigits_in v 45 (by rw [← e]; exact List.mem_cons_self)
    exact absurd this.1 (by decide)
  unfold Lib.itoa at h
  split at h
  · split at h
    · injection h with _ h
      have := congrArg valOf h
      rw [decDigits_val, decDigits_val] at this
      omega
    · exact (key _ _ h).elim
  · split at h
    · exact (key _ _ h.symm).elim
    · have := congrArg valOf h
      rw [decDigits_val, decDigits_val] at this
      omega
def ansWord (a : Answer) : List UInt8 := if a.code = 0 then [111, 107] else [110, 111, 32] ++ Lib.itoa a.code
def ansTail (a : Answer) : List UInt8 := if a.text.toList = [] then [] else 32 :: a.text.toList
def ansLine (a : Answer) : List UInt8 := ansWord a ++ ansTail a
theorem ansTail_inj {a b : Answer} (h : ansTail a = ansTail b) : a.text = b.text := by
  unfold ansTail at h
  refine toList_inj ?_
  split at h <;> split at h
  · rename_i h1 h2; rw [h1, h2]
  · cases h
  · cases h
  · injection h
/-- ANSWERS TELL APART -/
theorem tail_split {w w' : List UInt8} {a b : Answer} (hw : NoBlank w) (hw' : NoBlank w') (h : w ++ ansTail a = w' ++ ansTail b) : w = w' ∧ a.text = b.text := by
  have h1 := congrArg (fun l => wordOf l) h
  have e : ∀ {w : List UInt8} (a : Answer), NoBlank w → (wordOf (w ++ ansTail a)).1 = w := fun {w} a hw => by
    unfold ansTail
    split
    · rw [List.append_nil, wordOf_none hw]
    · rw [wordOf_append hw]
  have h2 := e a hw
  rw [h1, e b hw'] at h2
  subst h2
  exact ⟨rfl, ansTail_inj (List.append_cancel_left h)⟩
theorem ansLine_inj {a b : Answer} (h : ansLine a = ansLine b) : a = b := by
  obtain ⟨c, t⟩ := a
  obtain ⟨d, u⟩ := b
  unfold ansLine ansWord at h
  by_cases hc : c = 0
  · by_cases hd : d = 0
    · simp only [if_pos hc, if_pos hd] at h
      have := ansTail_inj (List.append_cancel_left h)
      simp only at this
      rw [hc, hd, this]
    · simp only [if_pos hc, if_neg hd] at h
      simp at h
  · by_cases hd : d = 0
    · simp only [if_neg hc, if_pos hd] at h
      simp at h
    · simp only [if_neg hc, if_neg hd] at h
      rw [List.append_assoc, List.append_assoc] at h
      have h1 := tail_split (itoa_noBlank c) (itoa_noBlank d) (List.append_cancel_left h)
      simp only at h1
      rw [itoa_inj h1.1, h1.2]
end Go.Proofs.YtalfbhhldfffkabDoor
