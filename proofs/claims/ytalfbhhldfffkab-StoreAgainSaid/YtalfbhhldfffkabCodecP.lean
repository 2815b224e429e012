/- CodecP: records as bytes, in plain terms: there and back. No program is walked here. -/
import Derived.Test.YtalfbhhldfffkabDrawer2
namespace Go.Proofs.Ytalfbhhldfffkab
open Go.RowKit

def mkStr (l : List UInt8) : ByteArray := ⟨l.toArray⟩
theorem mkStr_toList (l : List UInt8) : (mkStr l).toList = l := by rw [ByteArray.toList_eq]; simp [mkStr]
theorem mkStr_of (s : ByteArray) : mkStr s.toList = s := toList_inj (mkStr_toList _)
theorem mkStr_size (l : List UInt8) : (mkStr l).size = l.length := by simp [mkStr, ByteArray.size]
def toByte (n : Int) : UInt8 := UInt8.ofNat n.toNat
theorem toByte_toNat {n : Int} (h : 0 ≤ n) (h' : n < 256) : ((toByte n).toNat : Int) = n := by
  unfold toByte
  have : (UInt8.ofNat n.toNat).toNat = n.toNat % 256 := UInt8.toNat_ofNat'
  rw [this]
  omega
theorem toByte_of (b : UInt8) : toByte (b.toNat : Int) = b := by
  unfold toByte
  rw [Int.toNat_natCast, UInt8.ofNat_toNat]

/-- codec.Check, of a record -/
def recCode (r : Record) : Int :=
  if r.client < 0 ∨ 3 ≤ r.client ∨ r.no < 1 ∨ 200 < r.no then 9
  else if ¬ (1 ≤ r.call.kind ∧ r.call.kind ≤ 4) then 1
  else if callCode r.call ≠ 0 then callCode r.call
  else if r.answer.code < 0 ∨ 99 < r.answer.code then 9
  else if r.answer.text.toList.isEmpty = false then 3
  else 0
/-- what a code of 0 says of a record -/
structure RecOk (r : Record) : Prop where
  client : 0 ≤ r.client ∧ r.client ≤ 2
  no : 1 ≤ r.no ∧ r.no ≤ 200
  kind : 1 ≤ r.call.kind ∧ r.call.kind ≤ 4
  call : callCode r.call = 0
  code : 0 ≤ r.answer.code ∧ r.answer.code ≤ 99
  text : r.answer.text = noText
theorem recCode_ok {r : Record} (h : recCode r = 0) : RecOk r := by
  unfold recCode at h
  by_cases h1 : r.client < 0 ∨ 3 ≤ r.client ∨ r.no < 1 ∨ 200 < r.no
  · rw [if_pos h1] at h; cases h
  rw [if_neg h1] at h
  by_cases h2 : ¬ (1 ≤ r.call.kind ∧ r.call.kind ≤ 4)
  · rw [if_pos h2] at h; cases h
  rw [if_neg h2] at h
  by_cases h3 : callCode r.call ≠ 0
  · rw [if_pos h3] at h; exact (h3 h).elim
  rw [if_neg h3] at h
  by_cases h4 : r.answer.code < 0 ∨ 99 < r.answer.code
  · rw [if_pos h4] at h; cases h
  rw [if_neg h4] at h
  by_cases h5 : r.answer.text.toList.isEmpty = false
  · rw [if_pos h5] at h; cases h
  exact ⟨by omega, by omega, by omega, by simpa using h3, by omega, empty_of (by simpa using h5)⟩
theorem recCode_of {r : Record} (h : RecOk r) : recCode r = 0 := by
  unfold recCode
  have h1 := h.client
  have h2 := h.no
  have h3 := h.code
  rw [if_neg (by omega), if_neg (by simpa using h.kind), if_neg (by simp [h.call]), if_neg (by omega), if_neg (by rw [h.text, noText_toList]; simp)]
theorem recCode_size {r : Record} (h : RecOk r) : r.call.name.size ≤ 5 ∧ r.call.to_.size ≤ 5 ∧ r.call.text.size ≤ 8 := by
  have hk := h.kind
  have hn := callCode_name h.call (by omega)
  have hf := callCode_form h.call
  have sz : ∀ {lo hi m : Nat} {s : ByteArray}, okText lo hi m s = true → s.size ≤ m := fun {lo hi m s} h => by
    unfold okText at h
    simp at h
    exact h.2.2
  refine ⟨sz hn, ?_, ?_⟩
  · by_cases h3 : r.call.kind = 3
    · exact sz (callCode_to h.call h3)
    · rw [hf.2.1 h3]; decide
  · by_cases h4 : r.call.kind = 4
    · exact sz (callCode_text h.call h4)
    · rw [hf.2.2 h4]; decide

/-! ### There -/
def strBytes (s : ByteArray) : List UInt8 := toByte s.size :: s.toList
def recBody (r : Record) : List UInt8 := [toByte r.client, toByte r.no, toByte r.call.kind, toByte r.answer.code] ++ (strBytes r.call.name ++ (strBytes r.call.to_ ++ strBytes r.call.text))
def recBytes (r : Record) : List UInt8 := toByte (((recBody r).length : Int) + 1) :: recBody r
theorem length_strBytes (s : ByteArray) : (strBytes s).length = s.size + 1 := by simp [strBytes, length_toList']
theorem length_recBody (r : Record) : (recBody r).length = 7 + r.call.name.size + r.call.to_.size + r.call.text.size := by simp [recBody, length_strBytes]; omega
theorem length_recBytes (r : Record) : (recBytes r).length = 8 + r.call.name.size + r.call.to_.size + r.call.text.size := by simp [recBytes, length_recBody]; omega
theorem recBytes_bounds {r : Record} (h : RecOk r) : 8 ≤ (recBytes r).length ∧ (recBytes r).length ≤ 26 := by
  have := recCode_size h; rw [length_recBytes]; omega

/-! ### Back -/
/-- a text off the beginning -/
def parseStr : List UInt8 → Option (ByteArray × List UInt8)
  | [] => none
  | k :: rest => if rest.length < k.toNat then none else some (mkStr (rest.take k.toNat), rest.drop k.toNat)
theorem parseStr_str {s : ByteArray} (hs : s.size < 256) (b : List UInt8) : parseStr (strBytes s ++ b) = some (s, b) := by
  have h1 := toByte_toNat (n := s.size) (by omega) (by omega)
  have h2 : (toByte (s.size : Int)).toNat = s.size := by omega
  have hl := length_toList' s
  show (if (s.toList ++ b).length < (toByte (s.size : Int)).toNat then none else some (mkStr ((s.toList ++ b).take (toByte (s.size : Int)).toNat), (s.toList ++ b).drop (toByte (s.size : Int)).toNat)) = _
  rw [h2, if_neg (by simp [hl]), ← hl, List.take_left, List.drop_left, mkStr_of]
theorem parseStr_some {b rest : List UInt8} {s : ByteArray} (h : parseStr b = some (s, rest)) : b = strBytes s ++ rest ∧ s.size < 256 := by
  cases b with
  | nil => cases h
  | cons k b =>
    rw [show parseStr (k :: b) = if b.length < k.toNat then none else some (mkStr (b.take k.toNat), b.drop k.toNat) from rfl] at h
    split at h
    · cases h
    · rename_i hlt
      injection h with h
      injection h with h1 h2
      subst h1; subst h2
      have hsz : (mkStr (b.take k.toNat)).size = k.toNat := by rw [mkStr_size, List.length_take]; omega
      refine ⟨?_, by rw [hsz]; exact k.toNat_lt⟩
      unfold strBytes
      rw [hsz, toByte_of, mkStr_toList, List.cons_append, List.take_append_drop]
def parse3 (b : List UInt8) : Option (ByteArray × ByteArray × ByteArray) :=
  match parseStr b with
  | none => none
  | some (x, b1) => match parseStr b1 with
    | none => none
    | some (y, b2) => match parseStr b2 with
      | none => none
      | some (z, b3) => if b3 = [] then some (x, y, z) else none
theorem parse3_some {b : List UInt8} {x y z : ByteArray} (h : parse3 b = some (x, y, z)) : b = strBytes x ++ (strBytes y ++ strBytes z) ∧ x.size < 256 ∧ y.size < 256 ∧ z.size < 256 := by
  unfold parse3 at h
  cases h1 : parseStr b with
  | none => rw [h1] at h; cases h
  | some p =>
    obtain ⟨x', b1⟩ := p
    rw [h1] at h
    simp only at h
    cases h2 : parseStr b1 with
    | none => rw [h2] at h; cases h
    | some p =>
      obtain ⟨y', b2⟩ := p
      rw [h2] at h
      simp only at h
      cases h3 : parseStr b2 with
      | none => rw [h3] at h; cases h
      | some p =>
        obtain ⟨z', b3⟩ := p
        rw [h3] at h
        simp only at h
        split at h
        · rename_i hb
          injection h with h
          injection h with e1 h
          injection h with e2 e3
          subst e1; subst e2; subst e3; subst hb
          obtain ⟨g1, s1⟩ := parseStr_some h1
          obtain ⟨g2, s2⟩ := parseStr_some h2
          obtain ⟨g3, s3⟩ := parseStr_some h3
          rw [g1, g2, g3, List.append_nil]
          exact ⟨rfl, s1, s2, s3⟩
        · cases h
theorem parse3_str {x y z : ByteArray} (hx : x.size < 256) (hy : y.size < 256) (hz : z.size < 256) : parse3 (strBytes x ++ (strBytes y ++ strBytes z)) = some (x, y, z) := by
  unfold parse3
  rw [parseStr_str hx]
  simp only
  rw [parseStr_str hy]
  simp only
  have := parseStr_str hz []
  rw [List.append_nil] at this
  rw [this]
  simp

def recOf (b : List UInt8) (s : ByteArray × ByteArray × ByteArray) : Record := ⟨((b.getD 1 0).toNat : Int), ((b.getD 2 0).toNat : Int), ⟨((b.getD 3 0).toNat : Int), s.1, s.2.1, s.2.2⟩, ⟨((b.getD 4 0).toNat : Int), noText⟩⟩
def decode (b : List UInt8) : Record × Int × Int :=
  if b = [] ∨ b.length < (b.getD 0 0).toNat then (Record.zero, 0, 8)
  else if (b.getD 0 0).toNat < 5 then (Record.zero, 0, 3)
  else match parse3 ((b.take (b.getD 0 0).toNat).drop 5) with
    | none => (Record.zero, 0, 3)
    | some s => if recCode (recOf b s) ≠ 0 then (Record.zero, 0, recCode (recOf b s)) else (recOf b s, ((b.getD 0 0).toNat : Int), 0)

/-- the bytes of a record, with whatever behind them, are decoded as it -/
theorem decode_bytes {r : Record} (h : RecOk r) (b : List UInt8) : decode (recBytes r ++ b) = (r, ((recBytes r).length : Int), 0) := by
  obtain ⟨h1, h2⟩ := recBytes_bounds h
  have hz := recCode_size h
  have hlen : ((toByte (((recBody r).length : Int) + 1)).toNat : Int) = (recBytes r).length := by
    rw [toByte_toNat (by omega) (by rw [length_recBody]; omega)]; simp [recBytes]
  have hn : ((recBytes r ++ b).getD 0 0).toNat = (recBytes r).length := by
    show (toByte (((recBody r).length : Int) + 1)).toNat = _; omega
  have hrec : recOf (recBytes r ++ b) (r.call.name, r.call.to_, r.call.text) = r := by
    have c1 := h.client; have c2 := h.no; have c3 := h.kind; have c4 := h.code
    show (⟨((toByte r.client).toNat : Int), ((toByte r.no).toNat : Int), ⟨((toByte r.call.kind).toNat : Int), r.call.name, r.call.to_, r.call.text⟩, ⟨((toByte r.answer.code).toNat : Int), noText⟩⟩ : Record) = r
    rw [toByte_toNat c1.1 (by omega), toByte_toNat (by omega) (by omega), toByte_toNat (by omega) (by omega), toByte_toNat c4.1 (by omega), ← h.text]
  unfold decode
  rw [if_neg (by rw [hn]; simp [recBytes]), if_neg (by rw [hn]; omega), hn, List.take_left]
  have hdrop : (recBytes r).drop 5 = strBytes r.call.name ++ (strBytes r.call.to_ ++ strBytes r.call.text) := rfl
  rw [hdrop, parse3_str (by omega) (by omega) (by omega)]
  simp only
  rw [hrec, recCode_of h, if_neg (by simp)]
/-- what is decoded begins with its bytes -/
theorem decode_zero {b : List UInt8} (h : (decode b).2.2 = 0) : RecOk (decode b).1 ∧ ∃ rest, b = recBytes (decode b).1 ++ rest ∧ (decode b).2.1 = ((recBytes (decode b).1).length : Int) := by
  unfold decode at h ⊢
  by_cases h1 : b = [] ∨ b.length < (b.getD 0 0).toNat
  · rw [if_pos h1] at h; cases h
  rw [if_neg h1] at h ⊢
  by_cases h2 : (b.getD 0 0).toNat < 5
  · rw [if_pos h2] at h; cases h
  rw [if_neg h2] at h ⊢
  cases hp : parse3 ((b.take (b.getD 0 0).toNat).drop 5) with
  | none => rw [hp] at h; cases h
  | some s =>
    rw [hp] at h
    simp only at h ⊢
    by_cases h3 : recCode (recOf b s) ≠ 0
    · rw [if_pos h3] at h; exact (h3 h).elim
    rw [if_neg h3]
    have hok := recCode_ok (by simpa using h3)
    refine ⟨hok, ?_⟩
    obtain ⟨x, y, z⟩ := s
    obtain ⟨hb, sx, sy, sz⟩ := parse3_some hp
    have hlen := congrArg List.length hb
    rw [List.length_drop, List.length_take, List.length_append, List.length_append, length_strBytes, length_strBytes, length_strBytes] at hlen
    match b, h1, h2, hb, hlen with
    | [], h1, _, _, _ => exact (h1 (.inl rfl)).elim
    | [n], h1, h2, _, _ => simp at h1 h2; omega
    | [n, _], h1, h2, _, _ => simp at h1 h2; omega
    | [n, _, _], h1, h2, _, _ => simp at h1 h2; omega
    | [n, _, _, _], h1, h2, _, _ => simp at h1 h2; omega
    | n :: b1 :: b2 :: b3 :: b4 :: t, h1, h2, hb, hlen =>
      have hn : (([n, b1, b2, b3, b4] ++ t).getD 0 0) = n := rfl
      simp only [List.getD_cons_zero, List.length_cons] at h1 h2 hlen hb ⊢
      have hle : n.toNat ≤ t.length + 5 := by
        have : ¬ t.length + 1 + 1 + 1 + 1 + 1 < n.toNat := fun e => h1 (.inr e)
        omega
      obtain ⟨m, hm⟩ : ∃ m, n.toNat = m + 5 := ⟨n.toNat - 5, by omega⟩
      rw [hm] at hb hlen
      have hb' : t.take m = strBytes x ++ (strBytes y ++ strBytes z) := hb
      have hbytes : recBytes (recOf (n :: b1 :: b2 :: b3 :: b4 :: t) (x, y, z)) = n :: b1 :: b2 :: b3 :: b4 :: t.take m := by
        have hbody : recBody (recOf (n :: b1 :: b2 :: b3 :: b4 :: t) (x, y, z)) = b1 :: b2 :: b3 :: b4 :: t.take m := by
          rw [hb']
          show [toByte (b1.toNat : Int), toByte (b2.toNat : Int), toByte (b3.toNat : Int), toByte (b4.toNat : Int)] ++ (strBytes x ++ (strBytes y ++ strBytes z)) = _
          simp only [toByte_of]
          rfl
        unfold recBytes
        rw [hbody]
        congr 1
        have : (((b1 :: b2 :: b3 :: b4 :: t.take m).length : Int) + 1) = (n.toNat : Int) := by
          simp only [List.length_cons, List.length_take]; omega
        rw [this, toByte_of]
      refine ⟨t.drop m, ?_, ?_⟩
      · rw [hbytes]; simp [List.take_append_drop]
      · rw [hbytes]; simp only [List.length_cons, List.length_take]; omega
theorem decode_code {b : List UInt8} (h : (decode b).2.2 ≠ 0) : decode b = (Record.zero, 0, (decode b).2.2) := by
  unfold decode at h ⊢
  by_cases h1 : b = [] ∨ b.length < (b.getD 0 0).toNat
  · rw [if_pos h1]
  rw [if_neg h1] at h ⊢
  by_cases h2 : (b.getD 0 0).toNat < 5
  · rw [if_pos h2]
  rw [if_neg h2] at h ⊢
  cases hp : parse3 ((b.take (b.getD 0 0).toNat).drop 5) with
  | none => rfl
  | some s =>
    rw [hp] at h
    simp only at h ⊢
    by_cases h3 : recCode (recOf b s) ≠ 0
    · rw [if_pos h3]
    · rw [if_neg h3] at h; exact (h rfl).elim
theorem recBytes_inj {r q : Record} (hr : RecOk r) (hq : RecOk q) (h : recBytes r = recBytes q) : r = q := by
  have h1 := decode_bytes hr []
  have h2 := decode_bytes hq []
  rw [h] at h1
  rw [h1] at h2
  injection h2
/-- bytes that are cut short are none -/
theorem decode_short {r : Record} (h : RecOk r) (k : Nat) (hk : k < (recBytes r).length) : (decode ((recBytes r).take k)).2.2 = 8 := by
  have hz := recCode_size h
  unfold decode
  rw [if_pos]
  cases k with
  | zero => exact .inl rfl
  | succ k =>
    right
    have hlen : ((toByte (((recBody r).length : Int) + 1)).toNat : Int) = (recBytes r).length := by
      rw [toByte_toNat (by omega) (by rw [length_recBody]; omega)]; simp [recBytes]
    have : (((recBytes r).take (k + 1)).getD 0 0).toNat = (recBytes r).length := by
      show (toByte (((recBody r).length : Int) + 1)).toNat = _; omega
    rw [this, List.length_take]
    omega

/-! ### All records with which bytes begin -/
def logBytes (l : List Record) : List UInt8 := l.flatMap recBytes
theorem logBytes_append (l r : List Record) : logBytes (l ++ r) = logBytes l ++ logBytes r := by simp [logBytes]
theorem logBytes_one (r : Record) : logBytes [r] = recBytes r := by simp [logBytes]
theorem logBytes_cons (r : Record) (l : List Record) : logBytes (r :: l) = recBytes r ++ logBytes l := by simp [logBytes]
/-- l: all records with which b begins, to the first that is none -/
structure IsAll (b : List UInt8) (l : List Record) : Prop where
  ok : ∀ r ∈ l, RecOk r
  rest : ∃ rest, b = logBytes l ++ rest ∧ (decode rest).2.2 ≠ 0
theorem IsAll.eq {b : List UInt8} {l r : List Record} (hl : IsAll b l) (hr : IsAll b r) : l = r := by
  obtain ⟨bl, e1, n1⟩ := hl.rest
  obtain ⟨br, e2, n2⟩ := hr.rest
  have ho1 := hl.ok
  have ho2 := hr.ok
  clear hl hr
  induction l generalizing b r with
  | nil =>
    cases r with
    | nil => rfl
    | cons x r =>
      rw [logBytes_cons, List.append_assoc] at e2
      have h := decode_bytes (ho2 x (by simp)) (logBytes r ++ br)
      rw [← e2, e1] at h
      simp only [logBytes, List.flatMap_nil, List.nil_append] at h
      rw [h] at n1
      exact (n1 rfl).elim
  | cons y l ih =>
    rw [logBytes_cons, List.append_assoc] at e1
    have h := decode_bytes (ho1 y (by simp)) (logBytes l ++ bl)
    rw [← e1] at h
    cases r with
    | nil =>
      simp only [logBytes, List.flatMap_nil, List.nil_append] at e2
      rw [e2] at h
      rw [h] at n2
      exact (n2 rfl).elim
    | cons x r =>
      rw [logBytes_cons, List.append_assoc] at e2
      have h' := decode_bytes (ho2 x (by simp)) (logBytes r ++ br)
      rw [← e2, h] at h'
      injection h' with h'
      subst h'
      rw [e1] at e2
      have e3 := List.append_cancel_left e2
      rw [ih (b := logBytes l ++ bl) (r := r) rfl e3 (fun r hr => ho1 r (List.mem_cons_of_mem _ hr)) (fun r hr => ho2 r (List.mem_cons_of_mem _ hr))]
def recAllF : Nat → List UInt8 → List Record
  | 0, _ => []
  | n + 1, b => if (decode b).2.2 = 0 then (decode b).1 :: recAllF n (b.drop (recBytes (decode b).1).length) else []
def recAll (b : List UInt8) : List Record := recAllF (b.length + 1) b
theorem recAllF_is (n : Nat) (b : List UInt8) (h : b.length < n) : IsAll b (recAllF n b) := by
  induction n generalizing b with
  | zero => omega
  | succ n ih =>
    unfold recAllF
    by_cases h0 : (decode b).2.2 = 0
    · rw [if_pos h0]
      obtain ⟨hok, rest, e, _⟩ := decode_zero h0
      have hb := recBytes_bounds hok
      have hl := congrArg List.length e
      rw [List.length_append] at hl
      have hd : b.drop (recBytes (decode b).1).length = rest := (take_len e.symm).2
      rw [hd]
      obtain ⟨ho, rest', e', n'⟩ := ih rest (by omega)
      refine ⟨fun r hr => ?_, rest', ?_, n'⟩
      · rcases List.mem_cons.1 hr with rfl | hr
        · exact hok
        · exact ho r hr
      · conv => lhs; rw [e, e']
        rw [logBytes_cons, List.append_assoc]
    · rw [if_neg h0]
      exact ⟨fun r hr => by simp at hr, b, by simp [logBytes], h0⟩
theorem recAll_is (b : List UInt8) : IsAll b (recAll b) := recAllF_is _ _ (by omega)
theorem recAll_of {b : List UInt8} {l : List Record} (h : IsAll b l) : recAll b = l := (recAll_is b).eq h
theorem decode_nil : (decode []).2.2 ≠ 0 := by
  have : (decode []).2.2 = 8 := rfl
  rw [this]; decide
theorem recAll_log {l : List Record} (h : ∀ r ∈ l, RecOk r) : recAll (logBytes l) = l := recAll_of ⟨h, [], by simp, decode_nil⟩
/-- what is cut is none: of records one behind the other, all that end ahead of the cut are there, and no other one -/
theorem recAll_cut {l : List Record} (h : ∀ r ∈ l, RecOk r) (k n : Nat) (hn : n ≤ l.length) (h1 : (logBytes (l.take n)).length ≤ k) (h2 : n < l.length → k < (logBytes (l.take (n + 1))).length) (_hk : k ≤ (logBytes l).length) : recAll ((logBytes l).take k) = l.take n := by
  refine recAll_of ⟨fun r hr => h r (List.mem_of_mem_take hr), ((logBytes l).take k).drop (logBytes (l.take n)).length, ?_, ?_⟩
  · conv => lhs; rw [← List.take_append_drop (logBytes (l.take n)).length ((logBytes l).take k)]
    congr 1
    rw [List.take_take, Nat.min_eq_left h1]
    exact (take_len (show logBytes (l.take n) ++ logBytes (l.drop n) = logBytes l by rw [← logBytes_append, List.take_append_drop])).1
  · have hd : ((logBytes l).take k).drop (logBytes (l.take n)).length = (logBytes (l.drop n)).take (k - (logBytes (l.take n)).length) := by
      rw [List.drop_take, (take_len (show logBytes (l.take n) ++ logBytes (l.drop n) = logBytes l by rw [← logBytes_append, List.take_append_drop])).2]
    rw [hd]
    by_cases hlt : n < l.length
    · have hd2 : l.drop n = l[n] :: l.drop (n + 1) := List.drop_eq_getElem_cons hlt
      have hr : RecOk l[n] := h _ (by simp)
      have h3 := h2 hlt
      rw [List.take_succ_eq_append_getElem hlt, logBytes_append, logBytes_one, List.length_append] at h3
      rw [hd2, logBytes_cons, List.take_append_of_le_length (by omega), decode_short hr _ (by omega)]
      decide
    · rw [List.drop_of_length_le (by omega)]
      simp [logBytes]
      exact decode_nil
end Go.Proofs.Ytalfbhhldfffkab
