/- FilesUse: a call of files by one who holds them among others; two lists of texts that are the same. -/
import Derived.Test.YtalfbhhldfffkabGreatDoorGFiles
import Derived.Test.YtalfbhhldfffkabGreatDoorRead
namespace Go.Proofs.YtalfbhhldfffkabGreatDoor
open Go.RowKit

section
variable {X Y Z : Type} {S : Rep Y} {R : Rep X} {O : Rep Z} {W w : World} {y : Y} {x : X} {z : Z}
theorem Has.exch (h : Has ((S.and R).and O) W w ((y, x), z)) : Has ((S.and O).and R) W w ((y, z), x) := by
  obtain ⟨H, ⟨F, G, ⟨F1, F2, h1, h2, h3, h4⟩, hG, hd, hH⟩, h5⟩ := h.ex
  refine ⟨⟨H, ⟨fun k => F1 k ∨ G k, F2, ⟨F1, G, h1, hG, fun k hk hg => hd k ((h4 k).2 (.inl hk)) hg, fun k => Iff.rfl⟩, h2, fun k hk hf => ?_, fun k => ?_⟩, h5⟩, h.ext⟩
  · rcases hk with hk | hk
    · exact h3 k hk hf
    · exact hd k ((h4 k).2 (.inr hf)) hk
  · rw [hH k, h4 k]
    constructor
    · rintro ((h | h) | h)
      · exact .inl (.inl h)
      · exact .inr h
      · exact .inl (.inr h)
    · rintro ((h | h) | h)
      · exact .inl (.inl h)
      · exact .inr h
      · exact .inl (.inr h)
end
theorem files_begin {Y : Type} {S : Rep Y} {W w : World} {y : Y} (h : Has S W w y) : Has (S.and (repHolds w.heap.size 102 180)) W (w.alloc (.cells #[.slice none 0 0] 102)) (y, ([] : List FileD)) :=
  h.beside (G := foot w.heap.size (.slice none 0 0)) ((Touch.refl _ w).alloc _) ⟨_, fun _ => Iff.rfl, Holds.new w _ _⟩ (foot_new w)
theorem str_call3 {c : Call} (h : Call.Ok c) : StrCall c := ⟨h.2.1, h.2.2.1, h.2.2.2⟩
theorem allOf_at {l : List FileD} {j : Nat} {f : FileD} (h : l[j]? = some f) : (allOf l)[2 * j]? = some f.name ∧ (allOf l)[2 * j + 1]? = some f.text := by
  unfold allOf
  induction l generalizing j with
  | nil => simp at h
  | cons x l ih =>
    cases j with
    | zero => simp at h; subst h; simp
    | succ j =>
      obtain ⟨h1, h2⟩ := ih (j := j) (by simpa using h)
      rw [show 2 * (j + 1) = 2 * j + 1 + 1 by omega]
      simpa using ⟨h1, h2⟩
theorem Owns.length_eq {α : Type} [Lies α] {w : World} {e : TypeId} {A : Option Addr} {n c : Nat} {l : List α} (h : Owns w e (.slice A n c) l) : n = l.length := by
  obtain ⟨A', c', he, _⟩ := h.form
  cases he
  rfl
theorem files_do_has {Y : Type} {S : Rep Y} {W w : World} {g : Nat} {y : Y} {l : List FileD} {x : Call} (h : Has (S.and (repHolds g 102 180)) W w (y, l)) (hok : FOk l) (hst : StrCall x) :
    Calls Tryz.prog 102 #[.pointer (some ⟨g, 0, none⟩), .agg x.cells] w fun e w' => e = .returned (.agg (fdo l x).1.cells) ∧ Has (S.and (repHolds g 102 180)) W w' (y, (fdo l x).2) := by
  obtain ⟨F, hF, hm⟩ := h.snd
  exact (files_do w g F l x hF hok hst).mono fun e w' ⟨he, hq⟩ => ⟨he, hm _ _ hq⟩

end Go.Proofs.YtalfbhhldfffkabGreatDoor
