/- Guest: what a client comes to, in plain terms, and its laws. No program is walked here. -/
import Derived.Test.YtalfbhhldfffkaaText
namespace Go.Proofs.Ytalfbhhldfffkaa
open Go.RowKit

structure Guest where
  me : Int
  no : Int
  call : Call
  isOpen : Bool
  done : List Record

def gNew (me : Int) : Guest := ⟨me, 0, Call.zero, false, []⟩
def gAsk (g : Guest) (c : Call) : Int × Guest :=
  if callCode c ≠ 0 then (callCode c, g)
  else if g.isOpen = true then (11, g)
  else if 200 ≤ g.no then (7, g)
  else (0, { g with no := g.no + 1, call := c, isOpen := true })
def gSend (g : Guest) : Packet × Bool := if g.isOpen = true then (⟨false, g.me, g.no, g.call, Answer.zero⟩, true) else (Packet.zero, false)
def gHears (g : Guest) (p : Packet) : Prop := g.isOpen = true ∧ p.reply = true ∧ p.client = g.me ∧ p.no = g.no ∧ p.call = g.call
instance (g : Guest) (p : Packet) : Decidable (gHears g p) := by unfold gHears; infer_instance
def gRec (g : Guest) (a : Answer) : Record := ⟨g.me, g.no, g.call, a⟩
def gHear (g : Guest) (p : Packet) : Bool × Guest :=
  if gHears g p then (true, { g with done := g.done ++ [gRec g p.answer], isOpen := false }) else (false, g)

/-- What holds of a guest that began anew: its calls are numbered as they were asked. -/
structure GuestOk (m : Int) (g : Guest) : Prop where
  me : g.me = m
  no : g.no = g.done.length + (if g.isOpen = true then 1 else 0)
  nums : ∀ (k : Nat) r, g.done[k]? = some r → r.client = m ∧ r.no = k + 1
  le : g.no ≤ 200
theorem gNew_ok (me : Int) : GuestOk me (gNew me) := ⟨rfl, by simp [gNew], fun k r h => by simp [gNew] at h, by simp [gNew]⟩
theorem gAsk_ok {me : Int} {g : Guest} (h : GuestOk me g) (c : Call) : GuestOk me (gAsk g c).2 := by
  unfold gAsk
  split
  · exact h
  split
  · exact h
  rename_i ho
  split
  · exact h
  refine ⟨h.me, ?_, h.nums, ?_⟩
  · have := h.no; simp [ho] at this ⊢; exact this
  · show g.no + 1 ≤ 200; omega
theorem gHear_ok {me : Int} {g : Guest} (h : GuestOk me g) (p : Packet) : GuestOk me (gHear g p).2 := by
  unfold gHear
  split
  case isFalse => exact h
  rename_i hh
  refine ⟨h.me, ?_, fun k r hk => ?_, h.le⟩
  · have := h.no; simp [hh.1] at this ⊢; exact this
  · show r.client = me ∧ r.no = k + 1
    have hk' : (g.done ++ [gRec g p.answer])[k]? = some r := hk
    rw [List.getElem?_append] at hk'
    split at hk'
    · exact h.nums k r hk'
    · rename_i hlt
      have hk0 : k - g.done.length = 0 := by
        rcases Nat.eq_zero_or_pos (k - g.done.length) with h0 | h0
        · exact h0
        · rw [List.getElem?_eq_none (by simp; omega)] at hk'; cases hk'
      rw [hk0] at hk'
      simp at hk'
      subst hk'
      have hno := h.no
      simp [hh.1] at hno
      exact ⟨h.me, by show g.no = k + 1; rw [hno]; omega⟩
theorem gOk_done {me : Int} {g : Guest} (h : GuestOk me g) : g.done.length ≤ 200 := by
  have := h.no; have := h.le; split at * <;> omega
theorem gAsk_done (g : Guest) (c : Call) : (gAsk g c).2.done = g.done := by unfold gAsk; split <;> try rfl
                                                                            split <;> try rfl
                                                                            split <;> rfl

/-! ### A step of a script, in one guest -/
def gStep (g : Guest) (x : ClientStep) : Guest :=
  if x.do_ = 0 then (gAsk g x.c).2
  else if x.do_ = 1 then (gHear g x.p).2
  else if x.do_ = 2 then (gHear g { (gSend g).1 with reply := true, answer := x.a }).2
  else g
theorem gStep_ok {me : Int} {g : Guest} (h : GuestOk me g) (x : ClientStep) : GuestOk me (gStep g x) := by
  unfold gStep
  split
  · exact gAsk_ok h _
  split
  · exact gHear_ok h _
  split
  · exact gHear_ok h _
  · exact h
def gSteps (g : Guest) (l : List ClientStep) : Guest := l.foldl gStep g
theorem gSteps_ok {me : Int} {g : Guest} (h : GuestOk me g) (l : List ClientStep) : GuestOk me (gSteps g l) := by
  induction l generalizing g with
  | nil => exact h
  | cons x l ih => exact ih (gStep_ok h x)
theorem gSteps_take {g : Guest} {l : List ClientStep} {k : Nat} {x : ClientStep} (h : l[k]? = some x) : gSteps g (l.take (k + 1)) = gStep (gSteps g (l.take k)) x := by
  unfold gSteps
  rw [List.take_add_one, h]
  simp

/-! ### Laws -/
theorem gSend_hear {g : Guest} (a : Answer) : (gHear g { (gSend g).1 with reply := true, answer := a }).1 = (gSend g).2 := by
  unfold gSend gHear
  by_cases h : g.isOpen = true
  · rw [if_pos h]
    have : gHears g { reply := true, client := g.me, no := g.no, call := g.call, answer := a } := ⟨h, rfl, rfl, rfl, rfl⟩
    simp [this]
  · rw [if_neg h]
    have : ¬ gHears g { reply := true, client := 0, no := 0, call := ⟨0, ⟨#[]⟩, ⟨#[]⟩, ⟨#[]⟩⟩, answer := a } := fun hh => h hh.1
    simp [this]
theorem gHear_no {g : Guest} {p : Packet} (h : (gHear g p).1 = false) : (gHear g p).2 = g := by
  unfold gHear at h ⊢
  split at h <;> simp_all
theorem gHear_not_open {g : Guest} {p : Packet} (h : (gHear g p).1 = true) : (gHear g p).2.isOpen = false ∧ g.isOpen = true ∧ (gHear g p).2.done.length = g.done.length + 1 := by
  unfold gHear at h ⊢
  split at h
  · rename_i hh
    simp [hh, hh.1]
  · simp at h
theorem gAsk_code {g : Guest} {c : Call} (h : (gAsk g c).1 ≠ 0) : (gAsk g c).2 = g := by
  unfold gAsk at h ⊢
  split at h
  · simp_all
  split at h
  · simp_all
  split at h
  · simp_all
  · simp at h
theorem gAsk_zero {g : Guest} {c : Call} (h : (gAsk g c).1 = 0) : g.isOpen = false ∧ (gAsk g c).2 = { g with no := g.no + 1, call := c, isOpen := true } := by
  unfold gAsk at h ⊢
  by_cases h1 : callCode c ≠ 0
  · rw [if_pos h1] at h; exact (h1 h).elim
  rw [if_neg h1] at h ⊢
  by_cases h2 : g.isOpen = true
  · rw [if_pos h2] at h; cases h
  rw [if_neg h2] at h ⊢
  by_cases h3 : 200 ≤ g.no
  · rw [if_pos h3] at h; cases h
  rw [if_neg h3]
  exact ⟨by simpa using h2, rfl⟩
theorem gAsk_busy {g : Guest} {c : Call} (h : g.isOpen = true) : (gAsk g c).1 ≠ 0 ∧ (gAsk g c).2 = g := by
  unfold gAsk
  split
  · exact ⟨by assumption, rfl⟩
  · simp
end Go.Proofs.Ytalfbhhldfffkaa
