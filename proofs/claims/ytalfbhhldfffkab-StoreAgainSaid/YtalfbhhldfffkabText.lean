/- Text: what names, texts and calls may be, in plain terms. No program is walked here. -/
import Derived.Test.YtalfbhhldfffkabBase
namespace Go.Proofs.Ytalfbhhldfffkab
open Go.RowKit

/-- The first n bytes of s lie between lo and hi. -/
def Within (lo hi : Nat) (s : ByteArray) (n : Nat) : Prop := ∀ i (h : i < s.size), i < n → lo ≤ s[i].toNat ∧ s[i].toNat ≤ hi
theorem Within.next {lo hi : Nat} {s : ByteArray} {k : Nat} (h : Within lo hi s k) (hk : k < s.size) (h1 : lo ≤ s[k].toNat) (h2 : s[k].toNat ≤ hi) : Within lo hi s (k + 1) := fun i hi' hn => by
  by_cases e : i = k
  · subst e; exact ⟨h1, h2⟩
  · exact h i hi' (by omega)
/-- a text of 1 to m bytes between lo and hi -/
def okText (lo hi m : Nat) (s : ByteArray) : Bool := s.toList.all (fun b => decide (lo ≤ b.toNat) && decide (b.toNat ≤ hi)) && (decide (0 < s.size) && decide (s.size ≤ m))
theorem length_toList' (s : ByteArray) : s.toList.length = s.size := by
  rw [ByteArray.toList_eq]; simp
theorem okText_in {lo hi m : Nat} {s : ByteArray} (h : Within lo hi s s.size) : okText lo hi m s = (decide (0 < s.size) && decide (s.size ≤ m)) := by
  unfold okText
  have : (s.toList.all fun b => decide (lo ≤ b.toNat) && decide (b.toNat ≤ hi)) = true := by
    rw [List.all_eq_true]
    intro b hb
    obtain ⟨i, hi', rfl⟩ := List.getElem_of_mem hb
    have hlt : i < s.size := by rw [← length_toList' s]; exact hi'
    have e : s.toList[i] = s[i] := by
      simp only [ByteArray.toList_eq]
      rfl
    have := h i hlt hlt
    rw [e]
    simp [this.1, this.2]
  rw [this, Bool.true_and]
theorem okText_out {lo hi m : Nat} {s : ByteArray} {k : Nat} (hk : k < s.size) (h : s[k].toNat < lo ∨ hi < s[k].toNat) : okText lo hi m s = false := by
  unfold okText
  have : (s.toList.all fun b => decide (lo ≤ b.toNat) && decide (b.toNat ≤ hi)) = false := by
    rw [List.all_eq_false]
    have hk' : k < s.toList.length := by rw [length_toList' s]; exact hk
    refine ⟨s.toList[k], List.getElem_mem hk', ?_⟩
    have e : s.toList[k] = s[k] := by
      simp only [ByteArray.toList_eq]
      rfl
    rw [e]
    rcases h with h | h <;> simp <;> omega
  rw [this, Bool.false_and]
theorem isEmpty_toList (s : ByteArray) : s.toList.isEmpty = decide (s.size = 0) := by
  rw [← length_toList' s]
  cases s.toList <;> simp

theorem okText_size {lo hi m : Nat} {s : ByteArray} (h : s.size < 1 ∨ m < s.size) : okText lo hi m s = false := by
  unfold okText
  rcases h with h | h
  · rw [decide_eq_false (show ¬ 0 < s.size by omega)]; simp
  · rw [decide_eq_false (show ¬ s.size ≤ m by omega)]; simp

/-- Check's code, of a call. -/
def callCode (x : Call) : Int :=
  if x.kind < 1 ∨ 6 < x.kind then 1
  else if (x.kind = 6 ∧ x.name.toList.isEmpty = false) ∨ (x.kind ≠ 3 ∧ x.to_.toList.isEmpty = false) ∨ (x.kind ≠ 4 ∧ x.text.toList.isEmpty = false) then 3
  else if (x.kind ≠ 6 ∧ okText 97 122 5 x.name = false) ∨ (x.kind = 3 ∧ okText 97 122 5 x.to_ = false) then 2
  else if x.kind = 4 ∧ okText 32 126 8 x.text = false then 4
  else 0

end Go.Proofs.Ytalfbhhldfffkab
