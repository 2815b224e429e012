/- At: parts of what lies at an address, as the walk loads them. No program is walked here. -/
import Derived.Test.YtalfbhhldfffkabBase
namespace Go.Proofs.Ytalfbhhldfffkab
open Go.RowKit

section
variable {α β : Type} [Lies α] [Lies β] {w : World} {a : Addr} {x : α}
theorem At.blk (h : At w a x) : ∃ cs t fr, w.heap[a.block]? = some (.cells cs t fr) ∧ ∀ j v, (Lies.cells x)[j]? = some v → cs[a.off + j]? = some v := by
  have hpos := Lies.pos (α := α)
  have hsz := Lies.size_eq x
  have h0 := h 0 _ (Array.getElem?_eq_getElem (show 0 < (Lies.cells x).size by omega))
  have e0 : a.add 0 = a := by unfold Addr.add; rw [if_pos rfl]
  rw [e0] at h0
  unfold World.cell? at h0
  split at h0
  case h_2 => cases h0
  rename_i cs t fr hg
  refine ⟨cs, t, fr, hg, fun j v hj => ?_⟩
  have hj' := h j v hj
  by_cases hz : j = 0
  · subst hz
    rw [e0] at hj'
    unfold World.cell? at hj'
    rw [hg] at hj'
    simp only at hj'
    split at hj'
    · cases hj'
    · simpa using hj'
  · have e : a.add j = ⟨a.block, a.off + j, none⟩ := by unfold Addr.add; rw [if_neg hz]
    rw [e, cell_of hg] at hj'
    exact hj'
theorem objPart_at (h : At w a x) (z : β) (n : Nat) (hz : ∀ j v, (Lies.cells z)[j]? = some v → (Lies.cells x)[n + j]? = some v) : objPart (a.off + n) (Lies.size β) (w.heap[a.block]?) = some (Lies.cells z) := by
  obtain ⟨cs, t, fr, hg, hc⟩ := h.blk
  have hpos := Lies.pos (α := β)
  have hsz := Lies.size_eq z
  have hall : ∀ j (hj : j < (Lies.cells z).size), cs[a.off + n + j]? = some (Lies.cells z)[j] := fun j hj => by
    rw [Nat.add_assoc]
    exact hc _ _ (hz j _ (Array.getElem?_eq_getElem hj))
  have hle : a.off + n + Lies.size β ≤ cs.size := by
    have := (Array.getElem?_eq_some_iff.1 (hall (Lies.size β - 1) (by omega))).1
    omega
  rw [hg, objPart_cells _ _ _ _ _ hle]
  congr 1
  refine Array.ext (by rw [Array.size_extract]; omega) fun j h1 h2 => ?_
  rw [Array.getElem_extract]
  have := hall j h2
  exact (Array.getElem?_eq_some_iff.1 this).2
end
theorem Reads.more {α : Type} [Lies α] {w : World} {B B' : Nat} {A : Option Addr} {l : List α} (h : Reads w B A l) (hb : B ≤ B') : Reads w B' A l := fun k x hk => by
  obtain ⟨ad, e, hlt, hat⟩ := h k x hk
  exact ⟨ad, e, by omega, hat⟩
theorem Reads.ext {α : Type} [Lies α] {W w : World} {A : Option Addr} {l : List α} (h : Reads W W.heap.size A l) (hx : Ext W w) : Reads w w.heap.size A l := (h.below fun k hk => hx.block k hk id).more hx.size
end Go.Proofs.Ytalfbhhldfffkab
