/- ChestP: what a store comes to, in plain terms: the records of its log; its laws. No program is walked here. -/
import Derived.Test.YtalfbhhldfffkabCodecP
import Derived.Test.YtalfbhhldfffkabFilesLaw
namespace Go.Proofs.Ytalfbhhldfffkab
open Go.RowKit

/-- files behind records: by rising names; in the document's order -/
def fbehind (L : List Record) : List FileD := L.foldl (fun l r => (fdo l r.call).2) []
def dbehind (L : List Record) : List FileD := L.foldl (fun l r => (ddo l r.call).2) []
theorem srt_foldl {l d : List FileD} (h : Srt l d) (L : List Record) : Srt (L.foldl (fun l r => (fdo l r.call).2) l) (L.foldl (fun l r => (ddo l r.call).2) d) := by
  induction L generalizing l d with
  | nil => exact h
  | cons r L ih => exact ih (fdo_ddo h r.call).2
theorem behind_srt (L : List Record) : Srt (fbehind L) (dbehind L) := srt_foldl ⟨List.Pairwise.nil, .refl _⟩ L
theorem fok_foldl {l : List FileD} (h : FOk l) (L : List Record) : FOk (L.foldl (fun l r => (fdo l r.call).2) l) := by
  induction L generalizing l with
  | nil => exact h
  | cons r L ih => exact ih (fdo_ok h r.call)
theorem fbehind_ok (L : List Record) : FOk (fbehind L) := fok_foldl FOk.nil L
theorem fbehind_append (L : List Record) (r : Record) : fbehind (L ++ [r]) = (fdo (fbehind L) r.call).2 := by simp [fbehind]
theorem dbehind_append (L : List Record) (r : Record) : dbehind (L ++ [r]) = (ddo (dbehind L) r.call).2 := by simp [dbehind]
theorem fbehind_take {L : List Record} {k : Nat} {r : Record} (h : L[k]? = some r) : fbehind (L.take (k + 1)) = (fdo (fbehind (L.take k)) r.call).2 := by
  rw [← fbehind_append]; congr 1; rw [List.take_add_one, h]; rfl
theorem dbehind_take {L : List Record} {k : Nat} {r : Record} (h : L[k]? = some r) : dbehind (L.take (k + 1)) = (ddo (dbehind (L.take k)) r.call).2 := by
  rw [← dbehind_append]; congr 1; rw [List.take_add_one, h]; rfl

theorem snoc_ind {α : Type} {P : List α → Prop} (h0 : P []) (h1 : ∀ l x, P l → P (l ++ [x])) (l : List α) : P l := by
  have h : ∀ r : List α, P r.reverse := fun r => by
    induction r with
    | nil => exact h0
    | cons x r ih => rw [List.reverse_cons]; exact h1 _ _ ih
  rw [← List.reverse_reverse l]
  exact h _
/-- of a client the last record -/
def lastOf (L : List Record) (client : Int) : Option Record := L.reverse.find? fun r => decide (r.client = client)
theorem lastOf_append (L : List Record) (r : Record) (client : Int) : lastOf (L ++ [r]) client = if r.client = client then some r else lastOf L client := by
  unfold lastOf
  rw [List.reverse_append, List.reverse_singleton, List.singleton_append, List.find?_cons]
  by_cases h : r.client = client <;> simp [h]
theorem lastOf_mem {L : List Record} {client : Int} {r : Record} (h : lastOf L client = some r) : r ∈ L ∧ r.client = client := by
  unfold lastOf at h
  exact ⟨by simpa using List.mem_of_find?_eq_some h, by simpa using List.find?_some h⟩
/-- its number; 0: there is none -/
def lastNo (L : List Record) (client : Int) : Int := match lastOf L client with | some r => r.no | none => 0
/-- what stands in a store's table -/
def lastRec (L : List Record) (client : Int) : Record := match lastOf L client with | some r => r | none => Record.zero

def chestNew (L : List Record) (client no : Int) (c : Call) : (Answer × Int × Int) × List Record :=
  if 2000 < (logBytes L).length + (recBytes ⟨client, no, c, Answer.zero⟩).length then ((Answer.zero, 0, 7), L)
  else (((fdo (fbehind L) c).1, ((recBytes ⟨client, no, c, Answer.zero⟩).length : Int), 0), L ++ [⟨client, no, c, (fdo (fbehind L) c).1⟩])
def chestCall (L : List Record) (client no : Int) (c : Call) : (Answer × Int × Int) × List Record :=
  if client < 0 ∨ 3 ≤ client ∨ no < 1 ∨ 200 < no then ((Answer.zero, 0, 9), L)
  else if callCode c ≠ 0 then ((Answer.zero, 0, callCode c), L)
  else if ¬ (1 ≤ c.kind ∧ c.kind ≤ 4) then (((fdo (fbehind L) c).1, 0, 0), L)
  else match lastOf L client with
    | some x => if no = x.no ∧ c = x.call then ((x.answer, 0, 0), L) else if no ≤ x.no then ((Answer.zero, 0, 10), L) else chestNew L client no c
    | none => chestNew L client no c
def chestTear (L : List Record) (client no : Int) (c : Call) (keep : Int) : Int × List Record :=
  ((chestCall L client no c).1.2.2, if (chestCall L client no c).1.2.2 = 0 ∧ 0 < (chestCall L client no c).1.2.1 ∧ keep < (chestCall L client no c).1.2.1 then L else (chestCall L client no c).2)

/-! ### What holds of every log -/
structure LogOk (L : List Record) : Prop where
  each : ∀ r ∈ L, RecOk r
  len : (logBytes L).length ≤ 2000
  serial : ∀ (k : Nat) r, L[k]? = some r → r.answer = (fdo (fbehind (L.take k)) r.call).1
  rising : L.Pairwise fun a b => a.client = b.client → a.no < b.no
theorem LogOk.nil : LogOk [] := ⟨fun r h => by simp at h, by simp [logBytes], fun k r h => by simp at h, List.Pairwise.nil⟩
theorem lastOf_ge' {L : List Record} : (L.Pairwise fun a b : Record => a.client = b.client → a.no < b.no) → ∀ {client : Int} {x : Record}, lastOf L client = some x → ∀ r ∈ L, r.client = client → r.no ≤ x.no := by
  refine snoc_ind (P := fun L => (L.Pairwise fun a b : Record => a.client = b.client → a.no < b.no) → ∀ {client : Int} {x : Record}, lastOf L client = some x → ∀ r ∈ L, r.client = client → r.no ≤ x.no) (fun _ _ _ _ r hr => by simp at hr) (fun L y ih hr client x hx r hm hc => ?_) L
  rw [List.pairwise_append] at hr
  rw [lastOf_append] at hx
  rcases List.mem_append.1 hm with hm | hm
  · split at hx
    · injection hx with hx
      subst hx
      exact Int.le_of_lt (hr.2.2 r hm y (by simp) (by omega))
    · exact ih hr.1 hx r hm hc
  · have : r = y := by simpa using hm
    subst this
    rw [if_pos hc] at hx
    injection hx with hx
    rw [hx]
    exact Int.le_refl _
theorem lastOf_ge {L : List Record} (h : LogOk L) {client : Int} {x : Record} (hx : lastOf L client = some x) : ∀ r ∈ L, r.client = client → r.no ≤ x.no := lastOf_ge' h.rising hx
theorem lastOf_none {L : List Record} {client : Int} (h : lastOf L client = none) : ∀ r ∈ L, r.client ≠ client := fun r hr => by
  unfold lastOf at h
  have := List.find?_eq_none.1 h r (by simpa using hr)
  simpa using this

/-! ### A call, in all its ways -/
structure CallOk (client no : Int) (c : Call) : Prop where
  client : 0 ≤ client ∧ client ≤ 2
  no : 1 ≤ no ∧ no ≤ 200
  call : callCode c = 0
def CWay (L : List Record) (client no : Int) (c : Call) (r : (Answer × Int × Int) × List Record) : Prop :=
  (∃ k : Int, k ≠ 0 ∧ r = ((Answer.zero, 0, k), L)) ∨
  (CallOk client no c ∧ ¬ (1 ≤ c.kind ∧ c.kind ≤ 4) ∧ r = (((fdo (fbehind L) c).1, 0, 0), L)) ∨
  (CallOk client no c ∧ (1 ≤ c.kind ∧ c.kind ≤ 4) ∧ ∃ x, lastOf L client = some x ∧ no = x.no ∧ c = x.call ∧ r = ((x.answer, 0, 0), L)) ∨
  (CallOk client no c ∧ (1 ≤ c.kind ∧ c.kind ≤ 4) ∧ (∀ x, lastOf L client = some x → x.no < no) ∧ (logBytes L).length + (recBytes ⟨client, no, c, Answer.zero⟩).length ≤ 2000 ∧
    r = (((fdo (fbehind L) c).1, ((recBytes ⟨client, no, c, Answer.zero⟩).length : Int), 0), L ++ [⟨client, no, c, (fdo (fbehind L) c).1⟩]))
theorem chest_way (L : List Record) (client no : Int) (c : Call) : CWay L client no c (chestCall L client no c) := by
  unfold chestCall
  by_cases h1 : client < 0 ∨ 3 ≤ client ∨ no < 1 ∨ 200 < no
  · rw [if_pos h1]; exact .inl ⟨_, by decide, rfl⟩
  rw [if_neg h1]
  by_cases h2 : callCode c ≠ 0
  · rw [if_pos h2]; exact .inl ⟨_, h2, rfl⟩
  rw [if_neg h2]
  have hok : CallOk client no c := ⟨by omega, by omega, by simpa using h2⟩
  by_cases h3 : ¬ (1 ≤ c.kind ∧ c.kind ≤ 4)
  · rw [if_pos h3]; exact .inr (.inl ⟨hok, h3, rfl⟩)
  rw [if_neg h3]
  have h3' : 1 ≤ c.kind ∧ c.kind ≤ 4 := by simpa using h3
  have hnew : (∀ x, lastOf L client = some x → x.no < no) → CWay L client no c (chestNew L client no c) := fun hl => by
    unfold chestNew
    by_cases hs : 2000 < (logBytes L).length + (recBytes ⟨client, no, c, Answer.zero⟩).length
    · rw [if_pos hs]; exact .inl ⟨_, by decide, rfl⟩
    · rw [if_neg hs]; exact .inr (.inr (.inr ⟨hok, h3', hl, by omega, rfl⟩))
  cases hl : lastOf L client with
  | none => exact hnew fun x hx => by rw [hl] at hx; cases hx
  | some x =>
    simp only
    by_cases he : no = x.no ∧ c = x.call
    · rw [if_pos he]; exact .inr (.inr (.inl ⟨hok, h3', x, hl, he.1, he.2, rfl⟩))
    rw [if_neg he]
    by_cases hle : no ≤ x.no
    · rw [if_pos hle]; exact .inl ⟨_, by decide, rfl⟩
    · rw [if_neg hle]
      exact hnew fun y hy => by rw [hl] at hy; injection hy with hy; subst hy; omega
theorem ans0 : 0 ≤ (0 : Int) ∧ (0 : Int) ≤ 99 := by decide
/-- what is answered of a call that may change something -/
theorem fdo_answer {l : List FileD} {c : Call} (hc : 1 ≤ c.kind ∧ c.kind ≤ 4) : (0 ≤ (fdo l c).1.code ∧ (fdo l c).1.code ≤ 99) ∧ (fdo l c).1.text = noText := by
  have hw := fdo_way l c
  generalize fdo l c = r at hw
  rcases hw with ⟨k, hk, rfl⟩ | ⟨_, hk, rfl⟩ | ⟨h0, hk, hn, hlen, rfl⟩ | ⟨_, hk, i, x, hi, hx, e, rfl⟩ | ⟨h0, hk, i, x, hi, hx, e, hs, rfl⟩ | ⟨h0, hk, i, x, hi, hx, e, ht, rfl⟩ | ⟨h0, hk, i, x, hi, hx, e, rfl⟩
  · exact ⟨⟨by show 0 ≤ k; omega, hk.2⟩, rfl⟩
  · omega
  · exact ⟨ans0, rfl⟩
  · omega
  all_goals exact ⟨ans0, rfl⟩
theorem new_ok {L : List Record} {client no : Int} {c : Call} (h : CallOk client no c) (hk : 1 ≤ c.kind ∧ c.kind ≤ 4) : RecOk ⟨client, no, c, (fdo (fbehind L) c).1⟩ :=
  ⟨h.client, h.no, hk, h.call, (fdo_answer hk).1, (fdo_answer hk).2⟩
theorem zero_ok {client no : Int} {c : Call} (h : CallOk client no c) (hk : 1 ≤ c.kind ∧ c.kind ≤ 4) : RecOk ⟨client, no, c, Answer.zero⟩ := ⟨h.client, h.no, hk, h.call, ans0, rfl⟩
theorem length_new (L : List Record) (client no : Int) (c : Call) (a : Answer) : (logBytes (L ++ [⟨client, no, c, a⟩])).length = (logBytes L).length + (recBytes ⟨client, no, c, Answer.zero⟩).length := by
  rw [logBytes_append, logBytes_one, List.length_append, length_recBytes, length_recBytes]
theorem CWay.ok {L : List Record} {client no : Int} {c : Call} {r : (Answer × Int × Int) × List Record} (h : CWay L client no c r) (hL : LogOk L) : LogOk r.2 := by
  rcases h with ⟨k, hk, rfl⟩ | ⟨_, _, rfl⟩ | ⟨_, _, x, _, _, _, rfl⟩ | ⟨hc, hk, hl, hs, rfl⟩
  · exact hL
  · exact hL
  · exact hL
  · refine ⟨fun r hr => ?_, by rw [length_new]; exact hs, fun k r hkr => ?_, ?_⟩
    · rcases List.mem_append.1 hr with hr | hr
      · exact hL.each r hr
      · rw [List.mem_singleton.1 hr]; exact new_ok hc hk
    · have hkr' : (L ++ [(⟨client, no, c, (fdo (fbehind L) c).1⟩ : Record)])[k]? = some r := hkr
      have hlt := (List.getElem?_eq_some_iff.1 hkr').1
      rw [List.length_append, List.length_singleton] at hlt
      show r.answer = (fdo (fbehind ((L ++ [(⟨client, no, c, (fdo (fbehind L) c).1⟩ : Record)]).take k)) r.call).1
      rw [List.take_append_of_le_length (by omega)]
      rw [List.getElem?_append] at hkr'
      split at hkr'
      · exact hL.serial k r hkr'
      · have hk0 : k = L.length := by omega
        subst hk0
        simp at hkr'
        subst hkr'
        rw [List.take_length]
    · show (L ++ [(⟨client, no, c, (fdo (fbehind L) c).1⟩ : Record)]).Pairwise _
      rw [List.pairwise_append]
      refine ⟨hL.rising, by simp, fun a ha b hb => ?_⟩
      rw [List.mem_singleton.1 hb]
      intro hab
      cases hx : lastOf L client with
      | none => exact absurd hab (lastOf_none hx a ha)
      | some x =>
        have h1 := lastOf_ge hL hx a ha hab
        have h2 := hl x hx
        show a.no < no
        omega
theorem chestCall_ok {L : List Record} (h : LogOk L) (client no : Int) (c : Call) : LogOk (chestCall L client no c).2 := (chest_way L client no c).ok h
theorem chestTear_ok {L : List Record} (h : LogOk L) (client no : Int) (c : Call) (keep : Int) : LogOk (chestTear L client no c keep).2 := by
  unfold chestTear
  show LogOk (if _ then L else (chestCall L client no c).2)
  split
  · exact h
  · exact chestCall_ok h client no c
/-- behind a code, and behind a call that only asks, the log is as it was -/
theorem chest_same {L : List Record} {client no : Int} {c : Call} (h : (chestCall L client no c).1.2.2 ≠ 0 ∨ ¬ (1 ≤ c.kind ∧ c.kind ≤ 4)) : (chestCall L client no c).2 = L := by
  have hw := chest_way L client no c
  generalize chestCall L client no c = r at hw h
  rcases hw with ⟨k, hk, rfl⟩ | ⟨_, _, rfl⟩ | ⟨_, _, x, _, _, _, rfl⟩ | ⟨hc, hk, hl, hs, rfl⟩
  · rfl
  · rfl
  · rfl
  · rcases h with h | h
    · exact (h rfl).elim
    · exact (h hk).elim
theorem chest_code {L : List Record} {client no : Int} {c : Call} (h : (chestCall L client no c).1.2.2 ≠ 0) : (chestCall L client no c).1.1 = Answer.zero := by
  have hw := chest_way L client no c
  generalize chestCall L client no c = r at hw h
  rcases hw with ⟨k, hk, rfl⟩ | ⟨_, _, rfl⟩ | ⟨_, _, x, _, _, _, rfl⟩ | ⟨hc, hk, hl, hs, rfl⟩
  · rfl
  all_goals exact (h rfl).elim
/-- the log of a call that may change something, and was answered, has it as that client's last -/
theorem chest_last {L : List Record} {client no : Int} {c : Call} (h : (chestCall L client no c).1.2.2 = 0) (hk : 1 ≤ c.kind ∧ c.kind ≤ 4) :
    CallOk client no c ∧ ∃ x, lastOf (chestCall L client no c).2 client = some x ∧ x.no = no ∧ x.call = c ∧ x.answer = (chestCall L client no c).1.1 := by
  have hw := chest_way L client no c
  generalize chestCall L client no c = r at hw h
  rcases hw with ⟨k, hk', rfl⟩ | ⟨_, hk', rfl⟩ | ⟨hc, _, x, hx, e1, e2, rfl⟩ | ⟨hc, _, hl, hs, rfl⟩
  · exact (hk' h).elim
  · exact (hk' hk).elim
  · exact ⟨hc, x, hx, e1.symm, e2.symm, rfl⟩
  · refine ⟨hc, ⟨client, no, c, _⟩, ?_, rfl, rfl, rfl⟩
    show lastOf (L ++ [_]) client = _
    rw [lastOf_append, if_pos rfl]
/-- again: it is answered as it was, and changes nothing -/
theorem chest_again {L : List Record} {client no : Int} {c : Call} (hc : CallOk client no c) (hk : 1 ≤ c.kind ∧ c.kind ≤ 4) {x : Record} (hx : lastOf L client = some x) (h1 : x.no = no) (h2 : x.call = c) :
    chestCall L client no c = ((x.answer, 0, 0), L) := by
  have h3 := hc.client
  have h4 := hc.no
  unfold chestCall
  rw [if_neg (by omega), if_neg (by simp [hc.call]), if_neg (by simpa using hk), hx]
  simp only
  rw [if_pos ⟨h1.symm, h2.symm⟩]
/-- with a lower number it is not answered -/
theorem chest_lower {L : List Record} {client no : Int} {c : Call} {x : Record} (hk : 1 ≤ c.kind ∧ c.kind ≤ 4) (hx : lastOf L client = some x) (h1 : no < x.no) :
    (chestCall L client no c).1.2.2 ≠ 0 ∧ (chestCall L client no c).2 = L := by
  have hw := chest_way L client no c
  generalize chestCall L client no c = r at hw
  rcases hw with ⟨k, hk', rfl⟩ | ⟨_, hk', rfl⟩ | ⟨hc, _, y, hy, e1, e2, rfl⟩ | ⟨hc, _, hl, hs, rfl⟩
  · exact ⟨hk', rfl⟩
  · exact (hk' hk).elim
  · rw [hx] at hy; injection hy with hy; subst hy; omega
  · have := hl x hx; omega
/-- another client's call leaves this one's last -/
theorem chest_other {L : List Record} {client no other : Int} {c : Call} (h : other ≠ client ∨ ¬ (1 ≤ c.kind ∧ c.kind ≤ 4)) : lastOf (chestCall L other no c).2 client = lastOf L client := by
  have hw := chest_way L other no c
  generalize chestCall L other no c = r at hw
  rcases hw with ⟨k, hk', rfl⟩ | ⟨_, hk', rfl⟩ | ⟨hc, _, y, hy, e1, e2, rfl⟩ | ⟨hc, hk, hl, hs, rfl⟩
  · rfl
  · rfl
  · rfl
  · rcases h with h | h
    · show lastOf (L ++ [_]) client = _
      rw [lastOf_append, if_neg h]
    · exact (h hk).elim
/-- a log is opened as itself -/
theorem log_all {L : List Record} (h : LogOk L) : recAll (logBytes L) = L := recAll_log h.each
/-- what was torn of the last record -/
theorem log_torn {L : List Record} (h : ∀ r ∈ L, RecOk r) {r : Record} (hr : RecOk r) (k : Nat) (hk : k < (recBytes r).length) : recAll ((logBytes (L ++ [r])).take ((logBytes L).length + k)) = L := by
  have h1 := recAll_cut (l := L ++ [r]) (fun q hq => by rcases List.mem_append.1 hq with hq | hq; exact h q hq; rw [List.mem_singleton.1 hq]; exact hr) ((logBytes L).length + k) L.length (by simp)
    (by rw [List.take_left]; omega) (fun _ => by rw [List.take_of_length_le (by simp), logBytes_append, logBytes_one, List.length_append]; omega) (by rw [logBytes_append, logBytes_one, List.length_append]; omega)
  rwa [List.take_left] at h1
end Go.Proofs.Ytalfbhhldfffkab
