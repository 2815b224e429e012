/- CodecUse: bytes that are owned may be read by the codec. -/
import Derived.Test.YtalfbhhldfffkabCodec6
namespace Go.Proofs.Ytalfbhhldfffkab
open Go.RowKit

theorem Owns.bytesIn {w : World} {E : TypeId} {A : Option Addr} {n c : Nat} {l : List UInt8} (h : Owns w E (.slice A n c) l) : BytesIn w.heap.size w A n c l := by
  obtain ⟨A', c', e, hc, hm, hr⟩ := h.form
  cases e
  exact ⟨rfl, hc, hm, hr, Nat.le_refl _⟩
theorem bytesIn_nil (w : World) : BytesIn w.heap.size w none 0 0 [] := ⟨rfl, Nat.le_refl _, by simp [maxLen], Reads.nil _ _ _, Nat.le_refl _⟩

end Go.Proofs.Ytalfbhhldfffkab
