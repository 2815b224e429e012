/- LineP: calls and answers as lines, in plain terms, and their laws. No program is walked here. (And behind it: LineQ, AnsP, DeskP, DeskQ, DeskR, DeskS, DeskBegun.) -/
import Derived.Test.YtalfbhhldfffkaaGreatDoorGPlain
import Derived.Lib.ItoaNum
import Derived.Lib.IndexBytes
import Derived.Lib.Split
import Derived.Lib.AtoiAll
import Derived.Lib.ItoaLen
import Derived.Lib.SplitLaws
set_option maxHeartbeats 8000000
set_option maxRecDepth 100000
namespace Go.Proofs.YtalfbhhldfffkaaGreatDoor
open Go.RowKit
def wMake : List UInt8 := [109, 97, 107, 101]
def wRemove : List UInt8 := [114, 101, 109, 111, 118, 101]
def wRename : List UInt8 := [114, 101, 110, 97, 109, 101]
def wAppend : List UInt8 := [97, 112, 112, 101, 110, 100]
def wRead : List UInt8 := [114, 101, 97, 100]
def wList : List UInt8 := [108, 105, 115, 116]
def kindWord (k : Int) : List UInt8 := if k = 1 then wMake else if k = 2 then wRemove else if k = 3 then wRename else if k = 4 then wAppend else if k = 5 then wRead else wList
def lineKind (w : List UInt8) : Int := if w = wMake then 1 else if w = wRemove then 2 else if w = wRename then 3 else if w = wAppend then 4 else if w = wRead then 5 else if w = wList then 6 else 0
def callLine (c : Call) : List UInt8 :=
 kindWord c.kind ++ ((if c.kind = 6 then [] else 32 :: c.name.toList) ++ (if c.kind = 3 then 32 :: c.to_.toList else if c.kind = 4 then 32 :: c.text.toList else []))
def callText (c : Call) : ByteArray × Int := if callCode c ≠ 0 then (noText, callCode c) else (mkStr (callLine c), 0)
def wordOf (s : List UInt8) : List UInt8 × List UInt8 × Bool := (s.takeWhile (fun b => b != 32), (s.dropWhile (fun b => b != 32)).tail, s.any (fun b => b == 32))
def NoBlank (w : List UInt8) : Prop := ∀ b ∈ w, b ≠ 32
theorem tw_self {w : List UInt8} (h : NoBlank w) : w.takeWhile (fun b => b != 32) = w := by
 induction w with
 | nil => rfl
 | cons b w ih => rw [List.takeWhile_cons, if_pos (by simpa using h b List.mem_cons_self), ih fun x hx => h x (List.mem_cons_of_mem _ hx)]
theorem dw_self {w : List UInt8} (h : NoBlank w) : w.dropWhile (fun b => b != 32) = [] := by
 induction w with
 | nil => rfl
 | cons b w ih => rw [List.dropWhile_cons, if_pos (by simpa using h b List.mem_cons_self), ih fun x hx => h x (List.mem_cons_of_mem _ hx)]
theorem wordOf_append {w : List UInt8} (h : NoBlank w) (r : List UInt8) : wordOf (w ++ 32 :: r) = (w, r, true) := by
 have h1 : w.takeWhile (fun b => b != 32) = w := tw_self h;have h2 : w.dropWhile (fun b => b != 32) = [] := dw_self h;unfold wordOf;rw [List.takeWhile_append, List.dropWhile_append, h1, h2];simp
theorem wordOf_none {w : List UInt8} (h : NoBlank w) : wordOf w = (w, [], false) := by
 have h1 : w.takeWhile (fun b => b != 32) = w := tw_self h;have h2 : w.dropWhile (fun b => b != 32) = [] := dw_self h;have h3 : w.any (fun b => b == 32) = false := List.any_eq_false.2 fun b hb => by simpa using h b hb
 unfold wordOf;rw [h1, h2, h3];rfl
theorem wordOf_fst (s : List UInt8) : NoBlank (wordOf s).1 := fun b hb => by
 have := mem_takeWhile hb;simpa using this
theorem wordOf_true {s : List UInt8} (h : (wordOf s).2.2 = true) : s = (wordOf s).1 ++ 32 :: (wordOf s).2.1 := by
 unfold wordOf at h ⊢;simp only at h ⊢;have e := List.takeWhile_append_dropWhile (p := fun b : UInt8 => b != 32) (l := s);generalize ha : s.takeWhile (fun b => b != 32) = a at *;cases hd : s.dropWhile (fun b => b != 32) with
 | nil =>
   rw [hd, List.append_nil] at e;obtain ⟨b, hb, hb2⟩ := List.any_eq_true.1 h;rw [<- e, <- ha] at hb;have := mem_takeWhile hb;simp at this hb2;exact (this hb2).elim
 | cons b r =>
   have hb : (fun b : UInt8 => b != 32) b = false := by
    have := List.head?_dropWhile_not (fun b : UInt8 => b != 32) s;rw [hd] at this;simpa using this
   have hb' : b = 32 := by simpa using hb
   rw [hd, hb'] at e;rw [List.tail_cons];exact e.symm
theorem wordOf_false {s : List UInt8} (h : (wordOf s).2.2 = false) : NoBlank s := fun b hb e => by
 unfold wordOf at h;have := List.any_eq_false.1 h b hb;simp [e] at this
def parsed (s : List UInt8) : Option Call :=
 if lineKind (wordOf s).1 = 6 then (if (wordOf s).2.2 = true then none else some ⟨6, noText, noText, noText⟩)
 else if lineKind (wordOf s).1 = 3 then (if (wordOf s).2.2 = true /\ (wordOf (wordOf s).2.1).2.2 = true then some ⟨3, mkStr (wordOf (wordOf s).2.1).1, mkStr (wordOf (wordOf s).2.1).2.1, noText⟩ else none)
 else if lineKind (wordOf s).1 = 4 then (if (wordOf s).2.2 = true /\ (wordOf (wordOf s).2.1).2.2 = true then some ⟨4, mkStr (wordOf (wordOf s).2.1).1, noText, mkStr (wordOf (wordOf s).2.1).2.1⟩ else none)
 else if lineKind (wordOf s).1 = 0 then none
 else (if (wordOf s).2.2 = true /\ (wordOf (wordOf s).2.1).2.2 = false then some ⟨lineKind (wordOf s).1, mkStr (wordOf (wordOf s).2.1).1, noText, noText⟩ else none)
def callOf (s : List UInt8) : Call × Int :=
 match parsed s with
 | none => (Call.zero, 12)
 | some c => if callCode c ≠ 0 then (Call.zero, callCode c) else (c, 0)
theorem lineKind_word {k : Int} (h : 1 <= k /\ k <= 6) : lineKind (kindWord k) = k := by
 obtain rfl | rfl | rfl | rfl | rfl | rfl : k = 1 \/ k = 2 \/ k = 3 \/ k = 4 \/ k = 5 \/ k = 6 := by omega
 all_goals decide
theorem kindWord_of {w : List UInt8} {k : Int} (h : lineKind w = k) (hk : k ≠ 0) : kindWord k = w /\ 1 <= k /\ k <= 6 := by
 unfold lineKind at h;split at h
 ·subst h; rename_i e; exact ⟨e ▸ rfl, by decide, by decide⟩
 split at h
 ·subst h; rename_i e; exact ⟨e ▸ rfl, by decide, by decide⟩
 split at h
 ·subst h; rename_i e; exact ⟨e ▸ rfl, by decide, by decide⟩
 split at h
 ·subst h; rename_i e; exact ⟨e ▸ rfl, by decide, by decide⟩
 split at h
 ·subst h; rename_i e; exact ⟨e ▸ rfl, by decide, by decide⟩
 split at h
 ·subst h; rename_i e; exact ⟨e ▸ rfl, by decide, by decide⟩
 ·exact (hk h.symm).elim
theorem line_parsed {s : List UInt8} {c : Call} (h : parsed s = some c) : callLine c = s := by
 unfold parsed at h;have hw := fun k => kindWord_of (w := (wordOf s).1) (k := k);generalize hk : lineKind (wordOf s).1 = k at h;split at h
 ·rename_i h6;split at h
  ·cases h
  ·rename_i hm;injection h with h;subst h;have e := (wordOf_none (wordOf_false (by simpa using hm)))
   rw [e] at hw hk;have := (hw 6 (by rw [hk, h6]) (by decide)).1;unfold callLine;simpa using this
 split at h
 ·rename_i h6 h3;split at h
  ·rename_i hm;injection h with h;subst h;have e1 := wordOf_true hm.1;have e2 := wordOf_true hm.2;have := (hw 3 (by rw [hk, h3]) (by decide)).1;unfold callLine;rw [if_neg (by show ¬ (3 : Int) = 6; decide), if_pos rfl];simp only [this, mkStr_toList];rw [List.cons_append, <- e2, <- e1]
  ·cases h
 split at h
 ·rename_i h6 h3 h4;split at h
  ·rename_i hm;injection h with h;subst h;have e1 := wordOf_true hm.1;have e2 := wordOf_true hm.2;have := (hw 4 (by rw [hk, h4]) (by decide)).1;unfold callLine;rw [if_neg (by show ¬ (4 : Int) = 6; decide), if_neg (by show ¬ (4 : Int) = 3; decide), if_pos rfl];simp only [this, mkStr_toList];rw [List.cons_append, <- e2, <- e1]
  ·cases h
 split at h
 ·cases h
 ·rename_i h6 h3 h4 h0;split at h
  ·rename_i hm;injection h with h;subst h;have e1 := wordOf_true hm.1;have e2 := wordOf_none (wordOf_false hm.2);have hkw := hw k hk h0;unfold callLine;simp only [mkStr_toList];rw [if_neg h6, if_neg h3, if_neg h4, List.append_nil, hkw.1];rw [e2];exact e1.symm
  ·cases h
theorem callOf_zero {s : List UInt8} (h : (callOf s).2 = 0) : callCode (callOf s).1 = 0 /\ callLine (callOf s).1 = s := by
 unfold callOf at h ⊢;cases hp : parsed s with
 | none => rw [hp] at h; simp at h
 | some c =>
   rw [hp] at h;by_cases hc : callCode c ≠ 0
   ·simp only [if_pos hc] at h; exact (hc h).elim
   ·simp only [if_neg hc];exact ⟨by simpa using hc, line_parsed hp⟩
def ansWord (a : Answer) : List UInt8 := if a.code = 0 then [111, 107] else [110, 111, 32] ++ Lib.itoa a.code
def ansTail (a : Answer) : List UInt8 := if a.text.toList = [] then [] else 32 :: a.text.toList
def ansLine (a : Answer) : List UInt8 := ansWord a ++ ansTail a
def pieces (s : List UInt8) : List (List UInt8) :=
 if (wordOf s).2.2 = true then (wordOf s).1 :: (if (wordOf (wordOf s).2.1).2.2 = true then [(wordOf (wordOf s).2.1).1, (wordOf (wordOf s).2.1).2.1] else [(wordOf s).2.1]) else [s]
theorem wordOf_cons (b : UInt8) (l : List UInt8) (hb : b ≠ 32) : wordOf (b :: l) = (b :: (wordOf l).1, (wordOf l).2.1, (wordOf l).2.2) := by
 unfold wordOf;rw [List.takeWhile_cons, if_pos (by simpa using hb), List.dropWhile_cons, if_pos (by simpa using hb)];simp [hb]
theorem index_word (s : List UInt8) : Lib.index s [32] = if (wordOf s).2.2 = true then ((wordOf s).1.length : Int) else -1 := by
 rw [Lib.index_one];induction s with
 | nil => rfl
 | cons b l ih =>
   unfold Lib.indexByte;by_cases hb : b = 32
   ·subst hb;have h := wordOf_append (w := []) (fun b hb => by cases hb) l;simp only [List.nil_append] at h;rw [h];simp
   ·rw [wordOf_cons b l hb, ih];have : (b == 32) = false := by simpa using hb
    rw [this];by_cases h2 : (wordOf l).2.2 = true
    ·simp only [h2, if_true];rw [if_neg (by simp), if_neg (by simp <;> omega)];simp
    ·simp [h2]
theorem take_of {s a r : List UInt8} (e : s = a ++ 32 :: r) : s.take (a.length + 0) = a := by subst e; simp
theorem drop_of {s a r : List UInt8} (e : s = a ++ 32 :: r) : s.drop (a.length + 1) = r := by subst e; rw [List.drop_append]; simp
theorem splitK_next (k : Nat) (s : List UInt8) : Lib.splitK [32] 0 (k + 1) s = if (wordOf s).2.2 = true then (wordOf s).1 :: Lib.splitK [32] 0 k (wordOf s).2.1 else [s] := by
 unfold Lib.splitK;rw [index_word];by_cases h : (wordOf s).2.2 = true
 ·have e := wordOf_true h;rw [if_pos h, if_pos h, if_neg (by simp <;> omega)];have h1 := take_of e;have h2 := drop_of e;simp only [Int.toNat_natCast, List.length_cons, List.length_nil];rw [h1, h2];cases k <;> rfl
 ·simp [h]
theorem splitK_zero (s : List UInt8) : Lib.splitK [32] 0 0 s = [s] := rfl
theorem wordOf_len {s : List UInt8} (h : (wordOf s).2.2 = true) : (wordOf s).2.1.length + 1 <= s.length := by
 have e := congrArg List.length (wordOf_true h);simp at e;omega
theorem wordOf_nil : (wordOf []).2.2 = false := rfl
theorem pieces_split (s : List UInt8) : Lib.splitK [32] 0 (min 3 (s.length + 1) - 1) s = pieces s := by
 have step : ∀ t : List UInt8, Lib.splitK [32] 0 2 t = pieces t := fun t => by
  rw [show (2 : Nat) = 1 + 1 from rfl, splitK_next, splitK_next (0 : Nat)];rfl
 match s with
 | [] => rfl
 | [b] =>
   show Lib.splitK [32] 0 (0 + 1) [b] = _;rw [splitK_next];unfold pieces;by_cases h : (wordOf [b]).2.2 = true
   ·have hl : (wordOf [b]).2.1.length + 1 <= 1 := wordOf_len h;have e : (wordOf [b]).2.1 = [] := List.eq_nil_of_length_eq_zero (by omega);rw [if_pos h, if_pos h, e, if_neg (by rw [wordOf_nil]; decide)];rfl
   ·rw [if_neg h, if_neg h]
 | a :: b :: l =>
   rw [show min 3 ((a :: b :: l).length + 1) - 1 = 2 by simp only [List.length_cons]; omega];exact step _
theorem pieces_head (s : List UInt8) : (pieces s)[0]? = some (wordOf s).1 := by
 unfold pieces;split
 ·rfl
 ·rename_i h;rw [wordOf_none (wordOf_false (by simpa using h))];rfl
theorem pieces_len (s : List UInt8) : (pieces s).length = if (wordOf s).2.2 = true then (if (wordOf (wordOf s).2.1).2.2 = true then 3 else 2) else 1 := by
 unfold pieces;split
 ·split <;> rfl
 ·rfl
theorem pieces_one {s : List UInt8} (h : (wordOf s).2.2 = true) : (pieces s)[1]? = some (wordOf (wordOf s).2.1).1 := by
 unfold pieces;rw [if_pos h];split
 ·rfl
 ·rename_i h2;rw [wordOf_none (w := (wordOf s).2.1) (wordOf_false (by simpa using h2))];rfl
theorem pieces_two {s : List UInt8} (h : (wordOf s).2.2 = true) (h2 : (wordOf (wordOf s).2.1).2.2 = true) : (pieces s)[2]? = some (wordOf (wordOf s).2.1).2.1 := by
 unfold pieces;rw [if_pos h, if_pos h2];rfl
def wordsL : List ByteArray := [⟨#[]⟩, ⟨#[109, 97, 107, 101]⟩, ⟨#[114, 101, 109, 111, 118, 101]⟩, ⟨#[114, 101, 110, 97, 109, 101]⟩, ⟨#[97, 112, 112, 101, 110, 100]⟩, ⟨#[114, 101, 97, 100]⟩, ⟨#[108, 105, 115, 116]⟩]
def idxOf (l : List ByteArray) (v : ByteArray) : Int := match l.findIdx? (fun x => decide (x = v)) with | some i => (i : Int) | none => -1
def idxUpto (l : List ByteArray) (v : ByteArray) (k : Nat) : Prop := ∀ x ∈ l.take k, x ≠ v
theorem mkStr_one {a b : List UInt8} (h : mkStr a = mkStr b) : a = b := by rw [<- mkStr_toList a, h, mkStr_toList]
theorem idx_word (w : List UInt8) : (idxOf wordsL (mkStr w) < 1 ↔ lineKind w = 0) /\ (lineKind w ≠ 0 -> idxOf wordsL (mkStr w) = lineKind w) := by
 by_cases h : w = wMake \/ w = wRemove \/ w = wRename \/ w = wAppend \/ w = wRead \/ w = wList
 ·rcases h with rfl | rfl | rfl | rfl | rfl | rfl <;> exact ⟨by decide +kernel, by decide +kernel⟩
 ·have h0 : lineKind w = 0 := by
   unfold lineKind;rw [if_neg (fun e => h (.inl e)), if_neg (fun e => h (.inr (.inl e))), if_neg (fun e => h (.inr (.inr (.inl e)))), if_neg (fun e => h (.inr (.inr (.inr (.inl e))))), if_neg (fun e => h (.inr (.inr (.inr (.inr (.inl e)))))), if_neg (fun e => h (.inr (.inr (.inr (.inr (.inr e))))))]
  refine ⟨⟨fun _ => h0, fun _ => ?_⟩, fun e => (e h0).elim⟩;unfold idxOf;cases hf : wordsL.findIdx? (fun x => decide (x = mkStr w)) with
  | none => decide
  | some i =>
    obtain ⟨hi, he, _⟩ := List.findIdx?_eq_some_iff_getElem.1 hf;have he' : wordsL[i] = mkStr w := by simpa using he
    have hi' : i < 7 := hi;obtain rfl | rfl | rfl | rfl | rfl | rfl | rfl : i = 0 \/ i = 1 \/ i = 2 \/ i = 3 \/ i = 4 \/ i = 5 \/ i = 6 := by omega
    ·decide
    ·exact (h (.inl (mkStr_one (he'.symm.trans rfl)))).elim
    ·exact (h (.inr (.inl (mkStr_one (he'.symm.trans rfl))))).elim
    ·exact (h (.inr (.inr (.inl (mkStr_one (he'.symm.trans rfl)))))).elim
    ·exact (h (.inr (.inr (.inr (.inl (mkStr_one (he'.symm.trans rfl))))))).elim
    ·exact (h (.inr (.inr (.inr (.inr (.inl (mkStr_one (he'.symm.trans rfl)))))))).elim
    ·exact (h (.inr (.inr (.inr (.inr (.inr (mkStr_one (he'.symm.trans rfl)))))))).elim
theorem parsed_kind (s : List UInt8) : parsed s = (let k := lineKind (wordOf s).1; if k = 0 then none else if (pieces s).length ≠ (if k = 6 then 1 else if k = 3 \/ k = 4 then 3 else 2) then none else
 some ⟨k, if k = 6 then noText else mkStr (wordOf (wordOf s).2.1).1, if k = 3 then mkStr (wordOf (wordOf s).2.1).2.1 else noText, if k = 4 then mkStr (wordOf (wordOf s).2.1).2.1 else noText⟩) := by
 rw [pieces_len];unfold parsed;simp only;generalize lineKind (wordOf s).1 = k;by_cases h6 : k = 6
 ·subst h6;cases (wordOf s).2.2 <;> cases (wordOf (wordOf s).2.1).2.2 <;> simp
 by_cases h3 : k = 3
 ·subst h3;cases (wordOf s).2.2 <;> cases (wordOf (wordOf s).2.1).2.2 <;> simp
 by_cases h4 : k = 4
 ·subst h4;cases (wordOf s).2.2 <;> cases (wordOf (wordOf s).2.1).2.2 <;> simp
 by_cases h0 : k = 0
 ·subst h0;simp
 ·cases (wordOf s).2.2 <;> cases (wordOf (wordOf s).2.1).2.2 <;> simp [h6, h3, h4, h0]
structure ShortAns (a : Answer) : Prop where
 text : a.text.size <= 100
 lo : 0 <= a.code
 hi : a.code <= 99
theorem ShortAns.zero : ShortAns Answer.zero := ⟨by decide, by decide, by decide⟩
theorem foldSp_len : ∀ (l : List ByteArray) (s : ByteArray), (∀ x ∈ l, x.size <= 5) -> (l.foldl (fun s y => s ++ (⟨#[32]⟩ : ByteArray) ++ y) s).size <= s.size + 6 * l.length
 | [], s, _ => by simp
 | x :: l, s, h => by
   have h1 := h x (by simp);have h2 := foldSp_len l (s ++ (⟨#[32]⟩ : ByteArray) ++ x) fun z hz => h z (List.mem_cons_of_mem _ hz);rw [ByteArray.size_append, ByteArray.size_append] at h2;have h3 : (⟨#[32]⟩ : ByteArray).size = 1 := rfl;simp only [List.length_cons, List.foldl_cons] at h2 ⊢;omega
theorem joinSp_len (l : List ByteArray) (h : ∀ x ∈ l, x.size <= 5) : (joinSp l).size <= 6 * l.length := by
 cases l with
 | nil => decide
 | cons x l =>
   have h1 := h x (by simp);have h2 := foldSp_len l x fun z hz => h z (List.mem_cons_of_mem _ hz);show (l.foldl (fun s y => s ++ (⟨#[32]⟩ : ByteArray) ++ y) x).size <= _;simp only [List.length_cons];omega
theorem okText_max {lo hi m : Nat} {s : ByteArray} (h : okText lo hi m s = true) : s.size <= m := by
 unfold okText at h;simp at h;omega
theorem fdo_short {l : List FileD} (h : FOk l) (c : Call) : ShortAns (fdo l c).1 := by
 have hz : noText.size = 0 := rfl;rcases fdo_way l c with ⟨k, hk, e⟩ | ⟨_, _, e⟩ | ⟨h0, _, hn, hlen, e⟩ | ⟨_, _, i, x, hi, hx, _, e⟩ | ⟨h0, _, i, x, hi, hx, _, hs, e⟩ | ⟨h0, _, i, x, hi, hx, _, ht, e⟩ | ⟨h0, _, i, x, hi, hx, _, e⟩
 all_goals rw [e]
 ·exact ⟨by show noText.size <= 100; omega, by show 0 <= k; omega, by show k <= 99; omega⟩
 ·refine ⟨?_, Int.le_refl _, (by decide : (0 : Int) <= 99)⟩
  have h1 := joinSp_len (l.map (·.name)) fun x hx => by
   obtain ⟨f, hf, rfl⟩ := List.mem_map.1 hx;exact okText_max (h.each f hf).1
  have h2 := h.len;rw [List.length_map] at h1;show (joinSp _).size <= 100;omega
 ·exact ShortAns.zero
 ·exact ⟨by have := (h.each x (List.mem_of_getElem? hx)).2; show x.text.size <= 100; omega, Int.le_refl _, (by decide : (0 : Int) <= 99)⟩
 ·exact ShortAns.zero
 ·exact ShortAns.zero
 ·exact ShortAns.zero
theorem rec_short {r : Record} (h : RecOk r) : ShortAns r.answer := by
 have h1 := h.text;have h2 := h.code;exact ⟨by rw [h1]; decide, by omega, by omega⟩
theorem chest_short {L : List Record} (h : LogOk L) (client no : Int) (c : Call) : ShortAns (chestCall L client no c).1.1 := by
 have hw := chest_way L client no c;generalize chestCall L client no c = r at *;rcases hw with ⟨k, hk, rfl⟩ | ⟨_, _, rfl⟩ | ⟨_, _, x, hx, _, _, rfl⟩ | ⟨hc, hk, hl, hs, rfl⟩
 ·exact ShortAns.zero
 ·exact fdo_short (fbehind_ok L) c
 ·exact rec_short (h.each x (lastOf_mem hx).1)
 ·exact fdo_short (fbehind_ok L) c
structure AnsOk (h : House) : Prop where
 bag : ∀ p ∈ h.bag, ShortAns p.answer
 done : ∀ i : Nat, ∀ r ∈ (h.G i).done, ShortAns r.answer
theorem hNew_ans : AnsOk hNew := ⟨fun p hp => by simp [hNew] at hp, fun i r hr => by simp [hNew, gNew] at hr⟩
theorem gHear_done (g : Guest) (p : Packet) {r : Record} (h : r ∈ (gHear g p).2.done) : r ∈ g.done \/ r.answer = p.answer := by
 unfold gHear at h;split at h
 ·rcases List.mem_append.1 h with h | h
  ·exact .inl h
  ·exact .inr (by simp at h; rw [h]; rfl)
 ·exact .inl h
theorem hTook_ans {h : House} (ha : AnsOk h) (n : Int) : AnsOk (hTook h n) := ⟨fun p hp => ha.bag p (pTake_mem hp), ha.done⟩
theorem hear_ans {h : House} (ha : AnsOk h) {p : Packet} (hp : ShortAns p.answer) (i : Nat) : AnsOk { h with G := upd h.G i (gHear (h.G i) p).2 } :=
 ⟨ha.bag, fun j r hr => by
  by_cases hj : j = i
  ·subst hj;replace hr : r ∈ (upd h.G j (gHear (h.G j) p).2 j).done := hr;rw [upd_same] at hr;rcases gHear_done _ _ hr with h1 | h1
   ·exact ha.done j r h1
   ·rw [h1]; exact hp
  ·replace hr : r ∈ (upd h.G i (gHear (h.G i) p).2 j).done := hr;rw [upd_other _ _ hj] at hr;exact ha.done j r hr⟩
theorem hCome_ans {h : House} (ha : AnsOk h) (hL : LogOk h.S) {p : Packet} (hp : ShortAns p.answer) : AnsOk (hCome h p) := by
 unfold hCome;split
 ·split
  ·exact hear_ans ha hp _
  ·exact ha
 split
 ·refine ⟨fun q hq => ?_, ha.done⟩;rcases pSend_mem hq with h1 | h1
  ·exact ha.bag q h1
  ·rw [h1]; exact chest_short hL _ _ _
 ·exact ha
theorem gSend_ans (g : Guest) : ShortAns (gSend g).1.answer := by
 unfold gSend;split <;> exact ShortAns.zero
theorem hSend_ans {h : House} (ha : AnsOk h) (n : Int) : AnsOk (hSend h n).2 := by
 unfold hSend;split
 ·exact ha
 split
 ·exact ha
 split
 ·exact ha
 refine ⟨fun q hq => ?_, ha.done⟩;rcases pSend_mem hq with h1 | h1
 ·exact ha.bag q h1
 ·rw [h1]; exact gSend_ans _
theorem pTake_ans {h : House} (ha : AnsOk h) (n : Int) : ShortAns (pTake h.bag n).1.answer := by
 by_cases hb : h.bag = []
 ·rw [hb];show ShortAns (pTake [] n).1.answer;unfold pTake;exact ShortAns.zero
 ·exact ha.bag _ (pTake_took n hb)
theorem hPacket_ans {h : House} (ha : AnsOk h) (hL : LogOk h.S) (x : Step) : AnsOk (hPacket h x).2 := by
 unfold hPacket;split
 ·exact ha
 split
 ·split
  ·exact ⟨fun q hq => ha.bag q (pDouble_mem hq), ha.done⟩
  ·exact ha
 split
 ·exact hCome_ans (hTook_ans ha x.n) hL (pTake_ans ha x.n)
 split
 ·exact ⟨(hTook_ans ha x.n).bag, ha.done⟩
 ·exact hTook_ans ha x.n
theorem hStep_ans {h : House} (ha : AnsOk h) (hL : LogOk h.S) (x : Step) : AnsOk (hStep h x).2 := by
 unfold hStep;split
 ·unfold hCall;split
  ·exact ha
  ·refine ⟨ha.bag, fun j r hr => ?_⟩;by_cases hj : j = x.n.toNat
   ·subst hj;replace hr : r ∈ (upd h.G x.n.toNat (gAsk (h.G x.n.toNat) x.call).2 x.n.toNat).done := hr;rw [upd_same, gAsk_done] at hr;exact ha.done _ r hr
   ·replace hr : r ∈ (upd h.G x.n.toNat (gAsk (h.G x.n.toNat) x.call).2 j).done := hr;rw [upd_other _ _ hj] at hr;exact ha.done j r hr
 split
 ·exact hSend_ans ha _
 split
 ·exact hPacket_ans ha hL _
 split <;> exact ha
theorem hDrain_ans {h : House} {fr : Nat -> Nat} (hh : HouseOk h fr) (ha : AnsOk h) : AnsOk (hDrain h) :=
 (hDrain_ind (P := fun h => HouseOk h fr /\ AnsOk h) (fun _h ⟨h1, h2⟩ hb => ⟨hDrain1_ok h1 hb, hCome_ans (hTook_ans h2 0) h1.log (pTake_ans h2 0)⟩) ⟨hh, ha⟩).1.2
theorem hSend1_ans {h : House} (ha : AnsOk h) (i : Nat) : AnsOk (hSend1 h i) := by
 unfold hSend1;split
 ·exact hSend_ans ha _
 ·exact ha
theorem hCalmF_ans (n : Nat) : ∀ {k : Nat} {h : House} {fr : Nat -> Nat}, HouseOk h fr -> AnsOk h -> AnsOk (hCalmF n k h).2 := by
 induction n with
 | zero => intro k h fr _ ha; exact ha
 | succ n ih =>
   intro k h fr hh ha;have h1 := (hDrain_ok hh).1;have h2 := hDrain_ans hh ha;unfold hCalmF;split
   ·exact ih (hSendAll_ok h1) (hSend1_ans (hSend1_ans (hSend1_ans h2 0) 1) 2)
   ·exact h2
theorem hCalm_ans {h : House} {fr : Nat -> Nat} (hh : HouseOk h fr) (ha : AnsOk h) : AnsOk (hCalm h).2 := hCalmF_ans 3 hh ha
def numOf (s : List UInt8) : Option Int := match Lib.atoiAll s with | .ok n => if Lib.itoa n = s then some n else none | _ => none
def numsOf : List (List UInt8) -> Option (List Int)
 | [] => some []
 | s :: l => match numOf s, numsOf l with | some n, some m => some (n :: m) | _, _ => none
def splitAll : List UInt8 -> List (List UInt8)
 | [] => [[]]
 | b :: l => if b = 32 then [] :: splitAll l else match splitAll l with | p :: r => (b :: p) :: r | [] => [[b]]
def wordsOf (s : List UInt8) : List (List UInt8) := (splitAll s).filter fun w => !w.isEmpty
def wNo : List UInt8 := [110, 111]
def wOk : List UInt8 := [111, 107]
def wEnd : List UInt8 := [101, 110, 100]
def wWhat : List UInt8 := [119, 104, 97, 116]
def wCall : List UInt8 := [99, 97, 108, 108]
def wReply : List UInt8 := [114, 101, 112, 108, 121]
def wSend : List UInt8 := [115, 101, 110, 100]
def wDeliver : List UInt8 := [100, 101, 108, 105, 118, 101, 114]
def wLose : List UInt8 := [108, 111, 115, 101]
def wDouble : List UInt8 := [100, 111, 117, 98, 108, 101]
def wCrash : List UInt8 := [99, 114, 97, 115, 104]
def wTear : List UInt8 := [116, 101, 97, 114]
def wCalm : List UInt8 := [99, 97, 108, 109]
def wPackets : List UInt8 := [112, 97, 99, 107, 101, 116, 115]
def wDone : List UInt8 := [100, 111, 110, 101]
def wLog : List UInt8 := [108, 111, 103]
def wThen : List UInt8 := [116, 104, 101, 110]
def joinL : List (List UInt8) -> List UInt8
 | [] => []
 | [x] => x
 | x :: l => x ++ 32 :: joinL l
def say (l : List (List UInt8)) : List UInt8 := joinL l ++ [10]
def dCode (c : Int) : List UInt8 := say (if c ≠ 0 then [wNo, Lib.itoa c] else [wOk])
def dStep (h : House) (x : Step) : List UInt8 × House := (dCode (hStep h x).1, (hStep h x).2)
def cText (c : Call) : List UInt8 := (callText c).1.toList
def recWords (client no : Int) (c : Call) (a : Answer) : List (List UInt8) := [Lib.itoa client, Lib.itoa no, cText c ++ [58], ansLine a]
def recTxt (r : Record) : List UInt8 := say (recWords r.client r.no r.call r.answer)
def packTxt (p : Packet) : List UInt8 := say (if p.reply = true then wReply :: recWords p.client p.no p.call p.answer else [wCall, Lib.itoa p.client, Lib.itoa p.no, cText p.call])
def oneKind (w : List UInt8) : Int := if w = wSend then 2 else if w = wDeliver then 3 else if w = wLose then 4 else if w = wDouble then 5 else 0
def dAsk (h : House) (w : List UInt8) (n : List Int) : Option (List UInt8 × House) :=
 if 0 < oneKind w /\ n.length = 1 then some (dStep h ⟨oneKind w, n.headD 0, 0, Call.zero⟩)
 else if w = wCrash /\ n.length = 0 then some (dStep h ⟨6, 0, 0, Call.zero⟩)
 else if w = wTear /\ n.length = 2 then some (dStep h ⟨7, n.headD 0, n.tail.headD 0, Call.zero⟩)
 else if w = wCalm /\ n.length = 0 then some (say [wCalm, Lib.itoa (hCalm h).1], (hCalm h).2)
 else if w = wPackets /\ n.length = 0 then some (h.bag.flatMap packTxt ++ say [wEnd], h)
 else if w = wDone /\ n.length = 1 then some (if 0 <= n.headD 0 /\ n.headD 0 < 3 then (h.G (n.headD 0).toNat).done.flatMap recTxt ++ say [wEnd] else dCode 9, h)
 else if w = wLog /\ n.length = 0 then some (h.S.flatMap recTxt ++ say [wEnd], h)
 else if w = wThen /\ n.length = 1 then some (if 0 <= n.headD 0 /\ n.headD 0 <= h.S.length then fshow (fbehind (h.S.take (n.headD 0).toNat)) ++ say [wEnd] else dCode 9, h)
 else none
def dWords (h : House) : List (List UInt8) -> List UInt8 × House
 | [] => ([], h)
 | w :: r => match numsOf r with
   | none => (say [wWhat], h)
   | some n => (dAsk h w n).getD (say [wWhat], h)
def dCall (h : House) (who call : List UInt8) : List UInt8 × House :=
 match numOf who with
 | none => (say [wWhat], h)
 | some n => if (callOf call).2 ≠ 0 then (dCode (callOf call).2, h) else dStep h ⟨1, n, 0, (callOf call).1⟩
def isAsk (s : List UInt8) : Bool := (wordOf s).2.2 && (wordOf (wordOf s).2.1).2.2 && decide ((wordOf s).1 = wCall)
def dLine (h : House) (s : List UInt8) : List UInt8 × House :=
 if isAsk s = true then dCall h (wordOf (wordOf s).2.1).1 (wordOf (wordOf s).2.1).2.1 else dWords h (wordsOf s)
def dLines (h : House) (l : List (List UInt8)) : List UInt8 × House := l.foldl (fun r s => (r.1 ++ (dLine r.2 s).1, (dLine r.2 s).2)) ([], h)
theorem dLines_from (r : List UInt8 × House) (l : List (List UInt8)) :
 l.foldl (fun r s => (r.1 ++ (dLine r.2 s).1, (dLine r.2 s).2)) r = (r.1 ++ (dLines r.2 l).1, (dLines r.2 l).2) := by
 induction l generalizing r with
 | nil => simp [dLines]
 | cons s l ih =>
   unfold dLines;rw [List.foldl_cons, List.foldl_cons, ih, ih];simp
theorem dLines_append (h : House) (a b : List (List UInt8)) : dLines h (a ++ b) = ((dLines h a).1 ++ (dLines (dLines h a).2 b).1, (dLines (dLines h a).2 b).2) := by
 conv => lhs; unfold dLines
 rw [List.foldl_append, dLines_from];rfl
theorem dLines_take {h : House} {l : List (List UInt8)} {k : Nat} {s : List UInt8} (hs : l[k]? = some s) :
 dLines h (l.take (k + 1)) = ((dLines h (l.take k)).1 ++ (dLine (dLines h (l.take k)).2 s).1, (dLine (dLines h (l.take k)).2 s).2) := by
 rw [List.take_add_one, hs, dLines_append];simp [dLines]
def DeskOk (h : House) : Prop := (∃ fr, HouseOk h fr) /\ AnsOk h
theorem DeskOk.new : DeskOk hNew := ⟨⟨_, hNew_ok⟩, hNew_ans⟩
theorem DeskOk.step {h : House} (hh : DeskOk h) (x : Step) : DeskOk (hStep h x).2 := by
 obtain ⟨⟨fr, h1⟩, h2⟩ := hh;exact ⟨⟨_, hStep_ok h1 x⟩, hStep_ans h2 h1.log x⟩
theorem DeskOk.calm {h : House} (hh : DeskOk h) : DeskOk (hCalm h).2 := by
 obtain ⟨⟨fr, h1⟩, h2⟩ := hh;exact ⟨⟨_, hCalm_ok h1⟩, hCalm_ans h1 h2⟩
theorem dAsk_ok {h : House} (hh : DeskOk h) {w : List UInt8} {n : List Int} {r : List UInt8 × House} (hr : dAsk h w n = some r) : DeskOk r.2 := by
 unfold dAsk at hr;split at hr
 ·injection hr with hr; subst hr; exact hh.step _
 split at hr
 ·injection hr with hr; subst hr; exact hh.step _
 split at hr
 ·injection hr with hr; subst hr; exact hh.step _
 split at hr
 ·injection hr with hr; subst hr; exact hh.calm
 split at hr
 ·injection hr with hr; subst hr; exact hh
 split at hr
 ·injection hr with hr; subst hr; exact hh
 split at hr
 ·injection hr with hr; subst hr; exact hh
 split at hr
 ·injection hr with hr; subst hr; exact hh
 ·cases hr
theorem dLine_ok {h : House} (hh : DeskOk h) (s : List UInt8) : DeskOk (dLine h s).2 := by
 unfold dLine;split
 ·unfold dCall;split
  ·exact hh
  ·split
   ·exact hh
   ·exact hh.step _
 ·unfold dWords;split
  ·exact hh
  ·split
   ·exact hh
   ·cases hr : dAsk h _ _ with
    | none => exact hh
    | some r => exact dAsk_ok hh hr
theorem dLines_ok {h : House} (hh : DeskOk h) (l : List (List UInt8)) : DeskOk (dLines h l).2 := by
 have key : ∀ (l : List (List UInt8)) (r : List UInt8 × House), DeskOk r.2 -> DeskOk (l.foldl (fun r s => (r.1 ++ (dLine r.2 s).1, (dLine r.2 s).2)) r).2 := fun l => by
  induction l with
  | nil => intro r hr; exact hr
  | cons s l ih => intro r hr; exact ih _ (dLine_ok hr s)
 exact key l _ hh
theorem joinL_len : ∀ l : List (List UInt8), (joinL l).length <= (l.map fun x => x.length + 1).sum
 | [] => Nat.le_refl _
 | [x] => by simp [joinL]
 | x :: y :: l => by
   have h := joinL_len (y :: l);show (x ++ 32 :: joinL (y :: l)).length <= _;rw [List.length_append, List.length_cons];simp only [List.map_cons, List.sum_cons] at h ⊢;omega
def Num64 (n : Int) : Prop := -9223372036854775808 <= n /\ n <= 9223372036854775807
theorem num_le {n : Int} (h : Num64 n) : (Lib.itoa n).length <= 21 := Lib.itoa_length_le n h.1 h.2
theorem ansLine_len {a : Answer} (h : ShortAns a) : (ansLine a).length <= 130 := by
 have h1 := h.text;have h2 := num_le (n := a.code) ⟨by have := h.lo; omega, by have := h.hi; omega⟩;unfold ansLine;rw [List.length_append];have e1 : (ansWord a).length <= 24 := by unfold ansWord; split <;> simp <;> omega
 have e2 : (ansTail a).length <= 101 := by
  unfold ansTail;split
  ·simp
  ·simp [length_toList']; omega
 omega
theorem cText_len {c : Call} (h : callCode c = 0) : (cText c).length <= 30 := by
 unfold cText callText;rw [if_neg (by simp [h])];rw [mkStr_toList];have hform := callCode_form h
 have hn : c.name.toList.length <= 5 := by
  rw [length_toList'];by_cases h6 : c.kind = 6
  ·rw [hform.1 h6]; decide
  ·exact okText_max (callCode_name h h6)
 have ht : c.to_.toList.length <= 5 := by
  rw [length_toList'];by_cases h3 : c.kind = 3
  ·exact okText_max (callCode_to h h3)
  ·rw [hform.2.1 h3]; decide
 have hx : c.text.toList.length <= 8 := by
  rw [length_toList'];by_cases h4 : c.kind = 4
  ·exact okText_max (callCode_text h h4)
  ·rw [hform.2.2 h4]; decide
 have hw : (kindWord c.kind).length <= 6 := by
  unfold kindWord;repeat' split
  all_goals decide
 unfold callLine;rw [List.length_append, List.length_append];have h1 : (if c.kind = 6 then [] else 32 :: c.name.toList).length <= 6 := by split <;> simp <;> omega
 have h2 : (if c.kind = 3 then 32 :: c.to_.toList else if c.kind = 4 then 32 :: c.text.toList else []).length <= 9 := by
  split
  ·simp; omega
  ·split <;> simp <;> omega
 omega
structure TellOk (client no : Int) (c : Call) : Prop where
 client : Num64 client
 no : Num64 no
 call : callCode c = 0
theorem recTxt_len {r : Record} (h : TellOk r.client r.no r.call) (ha : ShortAns r.answer) : (recTxt r).length <= 250 := by
 have h1 := num_le h.client;have h2 := num_le h.no;have h3 := cText_len h.call;have h4 := ansLine_len ha;unfold recTxt say;rw [List.length_append];have h5 := joinL_len (recWords r.client r.no r.call r.answer);simp only [recWords, List.map_cons, List.map_nil, List.sum_cons, List.sum_nil, List.length_append, List.length_cons, List.length_nil] at h5 ⊢;omega
theorem packTxt_len {p : Packet} (h : TellOk p.client p.no p.call) (ha : ShortAns p.answer) : (packTxt p).length <= 250 := by
 have h1 := num_le h.client;have h2 := num_le h.no;have h3 := cText_len h.call;have h4 := ansLine_len ha;unfold packTxt say;rw [List.length_append];split
 ·have h5 := joinL_len (wReply :: recWords p.client p.no p.call p.answer);simp only [recWords, wReply, List.map_cons, List.map_nil, List.sum_cons, List.sum_nil, List.length_append, List.length_cons, List.length_nil] at h5 ⊢;omega
 ·have h5 := joinL_len [wCall, Lib.itoa p.client, Lib.itoa p.no, cText p.call];simp only [wCall, List.map_cons, List.map_nil, List.sum_cons, List.sum_nil, List.length_cons, List.length_nil] at h5 ⊢;omega
theorem flat_len {α : Type} (f : α -> List UInt8) : ∀ (l : List α), (∀ x ∈ l, (f x).length <= 250) -> (l.flatMap f).length <= 250 * l.length
 | [], _ => by simp
 | x :: l, h => by
   have h1 := h x (by simp);have h2 := flat_len f l fun y hy => h y (List.mem_cons_of_mem _ hy);rw [List.flatMap_cons, List.length_append, List.length_cons];omega
theorem tell_packet {h : House} {fr : Nat -> Nat} (hh : HouseOk h fr) {p : Packet} (hp : p ∈ h.bag) : TellOk p.client p.no p.call := by
 have h1 := hh.packets p hp;have h2 := h1.nth.le (hh.guest _ (toNat_lt h1.client));have h3 := (hh.guest _ (toNat_lt h1.client)).le;have h4 := h1.nth.1;have h5 := h1.client;exact ⟨⟨by omega, by omega⟩, ⟨by omega, by omega⟩, hh.calls _ (toNat_lt h1.client) _ (List.mem_of_getElem? h1.nth.2)⟩
theorem tell_done {h : House} {fr : Nat -> Nat} (hh : HouseOk h fr) {i : Nat} (hi : i < 3) {r : Record} (hr : r ∈ (h.G i).done) : TellOk r.client r.no r.call := by
 obtain ⟨e, hn⟩ := nth_done (hh.guest i hi) hr;have h2 := hn.le (hh.guest i hi);have h3 := (hh.guest i hi).le;have h4 := hn.1;exact ⟨⟨by omega, by omega⟩, ⟨by omega, by omega⟩, hh.calls i hi _ (List.mem_of_getElem? hn.2)⟩
theorem tell_log {h : House} {fr : Nat -> Nat} (hh : HouseOk h fr) {r : Record} (hr : r ∈ h.S) : TellOk r.client r.no r.call := by
 have h1 := hh.log.each r hr;have h2 := h1.client;have h3 := h1.no;exact ⟨⟨by omega, by omega⟩, ⟨by omega, by omega⟩, h1.call⟩
theorem splitAll_ne (s : List UInt8) : splitAll s ≠ [] := by
 cases s with
 | nil => simp [splitAll]
 | cons b l =>
   unfold splitAll;split
   ·simp
   ·split <;> simp
theorem splitAll_none {s : List UInt8} (h : NoBlank s) : splitAll s = [s] := by
 induction s with
 | nil => rfl
 | cons b l ih =>
   have hb : b ≠ 32 := h b List.mem_cons_self;unfold splitAll;rw [if_neg hb, ih fun x hx => h x (List.mem_cons_of_mem _ hx)]
theorem splitAll_cons {b : UInt8} (hb : b ≠ 32) {l p : List UInt8} {r : List (List UInt8)} (h : splitAll l = p :: r) : splitAll (b :: l) = (b :: p) :: r := by
 rw [splitAll, if_neg hb, h]
theorem splitAll_append {w : List UInt8} (h : NoBlank w) (r : List UInt8) : splitAll (w ++ 32 :: r) = w :: splitAll r := by
 induction w with
 | nil => rfl
 | cons b l ih => exact splitAll_cons (h b List.mem_cons_self) (ih fun x hx => h x (List.mem_cons_of_mem _ hx))
theorem splitAll_word (s : List UInt8) : splitAll s = if (wordOf s).2.2 = true then (wordOf s).1 :: splitAll (wordOf s).2.1 else [s] := by
 split
 ·rename_i h;have e := wordOf_true h;conv => lhs; rw [e]
  exact splitAll_append (wordOf_fst s) _
 ·rename_i h;exact splitAll_none (wordOf_false (by simpa using h))
theorem count_word {s : List UInt8} (h : (wordOf s).2.2 = true) : s.count 32 = (wordOf s).2.1.count 32 + 1 := by
 have e := wordOf_true h;have h1 : (wordOf s).1.count 32 = 0 := List.count_eq_zero.2 fun hm => wordOf_fst s 32 hm rfl;conv => lhs; rw [e]
 rw [List.count_append, List.count_cons_self, h1];omega
theorem splitK_all : ∀ (k : Nat) (s : List UInt8), s.count 32 <= k -> Lib.splitK [32] 0 k s = splitAll s
 | 0, s, h => by
   rw [splitK_zero, splitAll_none];intro b hb e;subst e;have := List.count_pos_iff.2 hb;omega
 | k + 1, s, h => by
   rw [splitK_next, splitAll_word];split
   ·rename_i hw;rw [splitK_all k _ (by have := count_word hw; omega)]
   ·rfl
theorem split_all (s : ByteArray) : (Lib.splitB ⟨#[32]⟩ 0 (Lib.countB s ⟨#[32]⟩) s).map (fun x => x.data.toList) = splitAll s.toList := by
 rw [Lib.splitB_data, ByteArray.toList_eq];refine splitK_all _ _ ?_;show _ <= Lib.count s.data.toList [32];rw [Lib.count_one];exact Nat.le_refl _
theorem splitAll_len (s : List UInt8) : (splitAll s).length = s.count 32 + 1 := by
 induction s with
 | nil => rfl
 | cons b l ih =>
   unfold splitAll;split
   ·rename_i hb; subst hb;rw [List.length_cons, ih, List.count_cons_self]
   ·rename_i hb;rw [List.count_cons_of_ne (by simpa using hb), <- ih];split
    ·rename_i p r e; rw [e]; rfl
    ·rename_i e; exact (splitAll_ne l e).elim
theorem count_le_len (s : List UInt8) : s.count 32 <= s.length := List.count_le_length
theorem splitAll_each {s : List UInt8} : ∀ x ∈ splitAll s, x.length <= s.length := by
 induction s with
 | nil => intro x hx; simp [splitAll] at hx; simp [hx]
 | cons b l ih =>
   intro x hx;unfold splitAll at hx;rw [List.length_cons];split at hx
   ·rcases List.mem_cons.1 hx with rfl | hx
    ·simp
    ·have := ih x hx; omega
   ·split at hx
    ·rename_i p r e;rcases List.mem_cons.1 hx with rfl | hx
     ·have := ih p (by rw [e]; exact List.mem_cons_self); simp; omega
     ·have := ih x (by rw [e]; exact List.mem_cons_of_mem _ hx); omega
    ·rename_i e; exact (splitAll_ne l e).elim
theorem wordsOf_each {s x : List UInt8} (h : x ∈ wordsOf s) : x ≠ [] /\ x.length <= s.length := by
 unfold wordsOf at h;rw [List.mem_filter] at h;exact ⟨by intro e; subst e; simp at h, splitAll_each x h.1⟩
theorem wordsOf_len (s : List UInt8) : (wordsOf s).length <= s.length + 1 := by
 have h1 : (wordsOf s).length <= (splitAll s).length := List.length_filter_le _ _;have h2 := splitAll_len s;have h3 := count_le_len s;omega
def wStep (r : List (List UInt8) × List UInt8) (b : UInt8) : List (List UInt8) × List UInt8 := if b = 32 then (if r.2 = [] then r.1 else r.1 ++ [r.2], []) else (r.1, r.2 ++ [b])
def wFold (s : List UInt8) : List (List UInt8) × List UInt8 := s.foldl wStep ([], [])
def wShut (r : List (List UInt8) × List UInt8) : List (List UInt8) := if r.2 = [] then r.1 else r.1 ++ [r.2]
theorem wFold_from (s : List UInt8) (out : List (List UInt8)) (w : List UInt8) (hw : NoBlank w) : wShut (s.foldl wStep (out, w)) = out ++ (splitAll (w ++ s)).filter fun x => !x.isEmpty := by
 induction s generalizing out w with
 | nil =>
   rw [List.append_nil, splitAll_none hw];unfold wShut;cases w with
   | nil => simp
   | cons a l => simp
 | cons b s ih =>
   rw [List.foldl_cons];by_cases hb : b = 32
   ·subst hb;rw [show wStep (out, w) 32 = (if w = [] then out else out ++ [w], []) from rfl];rw [ih _ [] (fun x hx => by cases hx), splitAll_append hw, List.nil_append, List.filter_cons];cases w with
    | nil => simp
    | cons a l => simp
   ·rw [show wStep (out, w) b = (out, w ++ [b]) by unfold wStep; rw [if_neg hb]]
    rw [ih out (w ++ [b]) (fun x hx => by
     rcases List.mem_append.1 hx with hx | hx
     ·exact hw x hx
     ·simp at hx; rw [hx]; exact hb)]
    rw [List.append_assoc];rfl
theorem wFold_words (s : List UInt8) : wShut (wFold s) = wordsOf s := by
 have := wFold_from s [] [] (fun x hx => by cases hx);rw [List.nil_append, List.nil_append] at this;exact this
theorem wFold_take {s : List UInt8} {k : Nat} {b : UInt8} (h : s[k]? = some b) : wFold (s.take (k + 1)) = wStep (wFold (s.take k)) b := by
 unfold wFold;rw [List.take_add_one, h, List.foldl_append];rfl
theorem wFold_bounds (s : List UInt8) : (wFold s).1.length <= s.length /\ (wFold s).2.length <= s.length := by
 have key : ∀ (s : List UInt8) (r : List (List UInt8) × List UInt8), (s.foldl wStep r).1.length <= r.1.length + s.length /\ (s.foldl wStep r).2.length <= r.2.length + s.length := fun s => by
  induction s with
  | nil => intro r; simp
  | cons b s ih =>
    intro r;have h := ih (wStep r b);have h1 : (wStep r b).1.length <= r.1.length + 1 := by unfold wStep; split <;> (try split) <;> simp
    have h2 : (wStep r b).2.length <= r.2.length + 1 := by unfold wStep; split <;> simp
    rw [List.foldl_cons, List.length_cons];omega
 have := key s ([], []);simp only [List.length_nil, Nat.zero_add] at this;exact this
theorem numsOf_append (a b : List (List UInt8)) : numsOf (a ++ b) = match numsOf a, numsOf b with | some x, some y => some (x ++ y) | _, _ => none := by
 induction a with
 | nil => cases h : numsOf b <;> simp [numsOf, h]
 | cons s a ih =>
   rw [List.cons_append];simp only [numsOf];rw [ih];cases numOf s <;> cases numsOf a <;> cases numsOf b <;> rfl
theorem numsOf_one (s : List UInt8) : numsOf [s] = (numOf s).map fun n => [n] := by
 simp only [numsOf];cases numOf s <;> rfl
theorem callCode_in (c : Call) : 0 <= callCode c /\ callCode c <= 99 := by
 by_cases h : callCode c = 0
 ·rw [h]; decide
 ·have := callCode_bounds h; omega
theorem chestCall_code (L : List Record) (client no : Int) (c : Call) : 0 <= (chestCall L client no c).1.2.2 /\ (chestCall L client no c).1.2.2 <= 99 := by
 have hc := callCode_in c
 have hn : ∀ L client no c, 0 <= (chestNew L client no c).1.2.2 /\ (chestNew L client no c).1.2.2 <= 99 := fun L client no c => by
  unfold chestNew;split <;> simp
 unfold chestCall;split
 ·simp
 split
 ·exact hc
 split
 ·simp
 split
 ·split
  ·simp
  ·split
   ·simp
   ·exact hn _ _ _ _
 ·exact hn _ _ _ _
theorem hStep_code (h : House) (x : Step) : 0 <= (hStep h x).1 /\ (hStep h x).1 <= 99 := by
 unfold hStep;split
 ·unfold hCall;split
  ·simp
  ·show 0 <= (gAsk _ _).1 /\ (gAsk _ _).1 <= 99;unfold gAsk;have := callCode_in x.call;split
   ·exact this
   ·split
    ·simp
    ·split <;> simp
 split
 ·unfold hSend;split
  ·simp
  ·split
   ·simp
   ·split <;> simp
 split
 ·unfold hPacket;split
  ·simp
  ·split
   ·split <;> simp
   ·split
    ·simp
    ·split
     ·exact chestCall_code h.S _ _ _
     ·simp
 split <;> simp
theorem hCalm_le (h : House) : (hCalm h).1 <= 3 := by have := hCalmF_le 3 0 h; unfold hCalm; omega
theorem say_len (l : List (List UInt8)) : (say l).length <= (l.map fun x => x.length + 1).sum + 1 := by
 have := joinL_len l;unfold say;rw [List.length_append];simp;omega
theorem dCode_len {c : Int} (h : 0 <= c /\ c <= 99) : (dCode c).length <= 100 := by
 have h1 := num_le (n := c) ⟨by omega, by omega⟩;unfold dCode;split
 ·have := say_len [wNo, Lib.itoa c];simp [wNo] at this ⊢;omega
 ·decide
theorem logLen8 {l : List Record} (h : ∀ r ∈ l, RecOk r) : l.length * 8 <= (logBytes l).length := by
 induction l with
 | nil => simp [logBytes]
 | cons r l ih =>
   have h1 := (recBytes_bounds (h r (by simp))).1;have h2 := ih fun x hx => h x (List.mem_cons_of_mem _ hx);unfold logBytes at h2 ⊢;rw [List.flatMap_cons, List.length_append, List.length_cons];omega
theorem callOf_in (s : List UInt8) : 0 <= (callOf s).2 /\ (callOf s).2 <= 99 := by
 unfold callOf;split
 ·simp
 ·rename_i c _;have := callCode_in c;split
  ·exact this
  ·simp
theorem what_len : (say [wWhat]).length <= 100 := by decide
theorem end_len : (say [wEnd]).length <= 100 := by decide
theorem dStep_len (h : House) (x : Step) : (dStep h x).1.length <= 100 := dCode_len (hStep_code h x)
theorem dAsk_len {h : House} (hh : DeskOk h) {w : List UInt8} {n : List Int} {r : List UInt8 × House} (hr : dAsk h w n = some r) : r.1.length <= 100000 := by
 obtain ⟨⟨fr, h1⟩, h2⟩ := hh;have he := end_len;unfold dAsk at hr;split at hr
 ·injection hr with hr; subst hr; have := dStep_len h ⟨oneKind w, n.headD 0, 0, Call.zero⟩; omega
 split at hr
 ·injection hr with hr; subst hr; have := dStep_len h ⟨6, 0, 0, Call.zero⟩; omega
 split at hr
 ·injection hr with hr; subst hr; have := dStep_len h ⟨7, n.headD 0, n.tail.headD 0, Call.zero⟩; omega
 split at hr
 ·injection hr with hr; subst hr;have h3 := hCalm_le h;have h4 := num_le (n := ((hCalm h).1 : Int)) ⟨by omega, by omega⟩;have h5 := say_len [wCalm, Lib.itoa ((hCalm h).1 : Int)];simp [wCalm] at h5 ⊢;omega
 split at hr
 ·injection hr with hr; subst hr;have h3 := flat_len packTxt h.bag fun p hp => packTxt_len (tell_packet h1 hp) (h2.bag p hp);have h4 := h1.bag;simp only [List.length_append];omega
 split at hr
 ·injection hr with hr; subst hr;simp only;split
  ·rename_i hn;have hi : (n.headD 0).toNat < 3 := by omega
   have h3 := flat_len recTxt (h.G (n.headD 0).toNat).done fun r hr => recTxt_len (tell_done h1 hi hr) (h2.done _ r hr);have h4 := gOk_done (h1.guest _ hi);simp only [List.length_append];omega
  ·have := dCode_len (c := 9) (by decide); omega
 split at hr
 ·injection hr with hr; subst hr;have h3 := flat_len recTxt h.S fun r hr => recTxt_len (tell_log h1 hr) (rec_short (h1.log.each r hr));have h4 := h1.log.len;have h5 := logLen8 h1.log.each;simp only [List.length_append];omega
 split at hr
 ·injection hr with hr; subst hr;simp only;split
  ·have h3 := fshow_len (fbehind_ok (h.S.take (n.headD 0).toNat));simp only [List.length_append];omega
  ·have := dCode_len (c := 9) (by decide); omega
 ·cases hr
theorem dLine_len {h : House} (hh : DeskOk h) (s : List UInt8) : (dLine h s).1.length <= 100000 := by
 have hw := what_len;unfold dLine;split
 ·unfold dCall;split
  ·simp only; omega
  ·split
   ·have := dCode_len (c := (callOf (wordOf (wordOf s).2.1).2.1).2) (callOf_in _);simp only; omega
   ·rename_i n _ _;have := dStep_len h ⟨1, n, 0, (callOf (wordOf (wordOf s).2.1).2.1).1⟩;omega
 ·unfold dWords;split
  ·simp
  ·split
   ·simp only; omega
   ·rename_i n _;cases hr : dAsk h _ n with
    | none => simp only [Option.getD_none]; omega
    | some r => simp only [Option.getD_some]; exact dAsk_len hh hr
theorem dLines_len {h : House} (hh : DeskOk h) (l : List (List UInt8)) : (dLines h l).1.length <= 100000 * l.length := by
 have key : ∀ (l : List (List UInt8)) (h : House), DeskOk h -> (dLines h l).1.length <= 100000 * l.length := fun l => by
  induction l with
  | nil => intro h _; simp [dLines]
  | cons s l ih =>
    intro h hh;have e : s :: l = [s] ++ l := rfl;rw [e, dLines_append];have h1 : dLines h [s] = dLine h s := by simp [dLines]
    rw [h1];have h2 := ih _ (dLine_ok hh s);have h3 := dLine_len hh s;simp only [List.length_append, List.length_cons, List.length_nil];omega
 exact key l h hh
section
variable (h : House) (m : List Int) {w : List UInt8}
theorem ask_one (h0 : 0 < oneKind w) (h1 : m.length = 1) : dAsk h w m = some (dStep h ⟨oneKind w, m.headD 0, 0, Call.zero⟩) := by
 unfold dAsk;rw [if_pos ⟨h0, h1⟩]
theorem ask_one_no (h0 : 0 < oneKind w) (h1 : m.length ≠ 1) : dAsk h w m = none := by
 unfold oneKind at h0;unfold dAsk;rw [if_neg (fun e => h1 e.2)];split at h0
 ·rename_i e; subst e; rfl
 split at h0
 ·rename_i e; subst e; rfl
 split at h0
 ·rename_i e; subst e; rfl
 split at h0
 ·rename_i e; subst e; rfl
 ·omega
theorem ask_crash : dAsk h wCrash [] = some (dStep h ⟨6, 0, 0, Call.zero⟩) := rfl
theorem ask_tear (a b : Int) : dAsk h wTear [a, b] = some (dStep h ⟨7, a, b, Call.zero⟩) := rfl
theorem ask_calm : dAsk h wCalm [] = some (say [wCalm, Lib.itoa (hCalm h).1], (hCalm h).2) := rfl
theorem ask_packets : dAsk h wPackets [] = some (h.bag.flatMap packTxt ++ say [wEnd], h) := rfl
theorem ask_done (a : Int) : dAsk h wDone [a] = some (if 0 <= a /\ a < 3 then (h.G a.toNat).done.flatMap recTxt ++ say [wEnd] else dCode 9, h) := rfl
theorem ask_log : dAsk h wLog [] = some (h.S.flatMap recTxt ++ say [wEnd], h) := rfl
theorem ask_then (a : Int) : dAsk h wThen [a] = some (if 0 <= a /\ a <= h.S.length then fshow (fbehind (h.S.take a.toNat)) ++ say [wEnd] else dCode 9, h) := rfl
theorem ask_crash_no (hm : m.length ≠ 0) : dAsk h wCrash m = none := by
 unfold dAsk;rw [if_neg (by intro e; exact absurd e.1 (by decide)), if_neg (fun e => hm e.2)];rfl
theorem ask_tear_no (hm : m.length ≠ 2) : dAsk h wTear m = none := by
 unfold dAsk;rw [if_neg (by intro e; exact absurd e.1 (by decide)), if_neg (by intro e; exact absurd e.1 (by decide)), if_neg (fun e => hm e.2)];rfl
theorem ask_calm_no (hm : m.length ≠ 0) : dAsk h wCalm m = none := by
 unfold dAsk;rw [if_neg (by intro e; exact absurd e.1 (by decide)), if_neg (by intro e; exact absurd e.1 (by decide)), if_neg (by intro e; exact absurd e.1 (by decide)), if_neg (fun e => hm e.2)];rfl
theorem ask_packets_no (hm : m.length ≠ 0) : dAsk h wPackets m = none := by
 unfold dAsk;rw [if_neg (by intro e; exact absurd e.1 (by decide)), if_neg (by intro e; exact absurd e.1 (by decide)), if_neg (by intro e; exact absurd e.1 (by decide)), if_neg (by intro e; exact absurd e.1 (by decide)), if_neg (fun e => hm e.2)];rfl
theorem ask_done_no (hm : m.length ≠ 1) : dAsk h wDone m = none := by
 unfold dAsk;rw [if_neg (by intro e; exact absurd e.1 (by decide)), if_neg (by intro e; exact absurd e.1 (by decide)), if_neg (by intro e; exact absurd e.1 (by decide)), if_neg (by intro e; exact absurd e.1 (by decide)), if_neg (by intro e; exact absurd e.1 (by decide)), if_neg (fun e => hm e.2)];rfl
theorem ask_log_no (hm : m.length ≠ 0) : dAsk h wLog m = none := by
 unfold dAsk;rw [if_neg (by intro e; exact absurd e.1 (by decide)), if_neg (by intro e; exact absurd e.1 (by decide)), if_neg (by intro e; exact absurd e.1 (by decide)), if_neg (by intro e; exact absurd e.1 (by decide)), if_neg (by intro e; exact absurd e.1 (by decide)), if_neg (by intro e; exact absurd e.1 (by decide)), if_neg (fun e => hm e.2)];rfl
theorem ask_then_no (hm : m.length ≠ 1) : dAsk h wThen m = none := by
 unfold dAsk;rw [if_neg (by intro e; exact absurd e.1 (by decide)), if_neg (by intro e; exact absurd e.1 (by decide)), if_neg (by intro e; exact absurd e.1 (by decide)), if_neg (by intro e; exact absurd e.1 (by decide)), if_neg (by intro e; exact absurd e.1 (by decide)), if_neg (by intro e; exact absurd e.1 (by decide)), if_neg (by intro e; exact absurd e.1 (by decide)), if_neg (fun e => hm e.2)]
theorem ask_other (h0 : ¬ 0 < oneKind w) (h1 : w ≠ wCrash) (h2 : w ≠ wTear) (h3 : w ≠ wCalm) (h4 : w ≠ wPackets) (h5 : w ≠ wDone) (h6 : w ≠ wLog) (h7 : w ≠ wThen) : dAsk h w m = none := by
 unfold dAsk;rw [if_neg (fun e => h0 e.1), if_neg (fun e => h1 e.1), if_neg (fun e => h2 e.1), if_neg (fun e => h3 e.1), if_neg (fun e => h4 e.1), if_neg (fun e => h5 e.1), if_neg (fun e => h6 e.1), if_neg (fun e => h7 e.1)]
end
def askL : List ByteArray := [⟨#[]⟩, ⟨#[]⟩, ⟨#[115, 101, 110, 100]⟩, ⟨#[100, 101, 108, 105, 118, 101, 114]⟩, ⟨#[108, 111, 115, 101]⟩, ⟨#[100, 111, 117, 98, 108, 101]⟩]
theorem ask_idx (w : List UInt8) : (0 < idxOf askL (mkStr w) ↔ 0 < oneKind w) /\ (0 < oneKind w -> idxOf askL (mkStr w) = oneKind w) := by
 by_cases h1 : w = wSend
 ·subst h1; decide
 by_cases h2 : w = wDeliver
 ·subst h2; decide
 by_cases h3 : w = wLose
 ·subst h3; decide
 by_cases h4 : w = wDouble
 ·subst h4; decide
 have ho : oneKind w = 0 := by unfold oneKind; rw [if_neg h1, if_neg h2, if_neg h3, if_neg h4]
 have e : ∀ l : List UInt8, (⟨l.toArray⟩ : ByteArray) = mkStr w ↔ l = w := fun l => ⟨fun h => by
  have := congrArg ByteArray.toList h;rwa [show (⟨l.toArray⟩ : ByteArray) = mkStr l from rfl, mkStr_toList, mkStr_toList] at this, fun h => by rw [h]; rfl⟩
 have hi : ¬ 0 < idxOf askL (mkStr w) := by
  unfold idxOf askL;by_cases h0 : w = []
  ·subst h0; decide
  ·have n0 : ¬ ((⟨#[]⟩ : ByteArray) = mkStr w) := fun h => h0 ((e []).1 h).symm;have n1 : ¬ ((⟨#[115, 101, 110, 100]⟩ : ByteArray) = mkStr w) := fun h => h1 ((e wSend).1 h).symm;have n2 : ¬ ((⟨#[100, 101, 108, 105, 118, 101, 114]⟩ : ByteArray) = mkStr w) := fun h => h2 ((e wDeliver).1 h).symm;have n3 : ¬ ((⟨#[108, 111, 115, 101]⟩ : ByteArray) = mkStr w) := fun h => h3 ((e wLose).1 h).symm;have n4 : ¬ ((⟨#[100, 111, 117, 98, 108, 101]⟩ : ByteArray) = mkStr w) := fun h => h4 ((e wDouble).1 h).symm;simp [List.findIdx?_cons, n0, n1, n2, n3, n4]
 rw [ho];exact ⟨⟨fun h => (hi h).elim, fun h => by omega⟩, fun h => by omega⟩
def dbLines : List (List UInt8) := [[99, 97, 108, 108, 32, 48, 32, 109, 97, 107, 101, 32, 97], [115, 101, 110, 100, 32, 48], [112, 97, 99, 107, 101, 116, 115], [116, 101, 97, 114, 32, 48, 32, 52], [99, 97, 108, 109], [99, 97, 108, 108, 32, 48, 32, 97, 112, 112, 101, 110, 100, 32, 97, 32, 120, 32, 121], [99, 97, 108, 109], [108, 111, 103], [116, 104, 101, 110, 32, 50], [100, 111, 110, 101, 32, 48], [120]]
def dbOut : List UInt8 := [111, 107, 10, 111, 107, 10, 99, 97, 108, 108, 32, 48, 32, 49, 32, 109, 97, 107, 101, 32, 97, 10, 101, 110, 100, 10, 111, 107, 10, 99, 97, 108, 109, 32, 49, 10, 111, 107, 10, 99, 97, 108, 109, 32, 49, 10, 48, 32, 49, 32, 109, 97, 107, 101, 32, 97, 58, 32, 111, 107, 10, 48, 32, 50, 32, 97, 112, 112, 101, 110, 100, 32, 97, 32, 120, 32, 121, 58, 32, 111, 107, 10, 101, 110, 100, 10, 97, 61, 120, 32, 121, 10, 101, 110, 100, 10, 48, 32, 49, 32, 109, 97, 107, 101, 32, 97, 58, 32, 111, 107, 10, 48, 32, 50, 32, 97, 112, 112, 101, 110, 100, 32, 97, 32, 120, 32, 121, 58, 32, 111, 107, 10, 101, 110, 100, 10, 119, 104, 97, 116, 10]
theorem db_out : (dLines hNew dbLines).1 = dbOut := by decide +kernel
end Go.Proofs.YtalfbhhldfffkaaGreatDoor
