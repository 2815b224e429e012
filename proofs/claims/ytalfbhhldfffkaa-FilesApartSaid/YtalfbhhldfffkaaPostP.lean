/- PostP: what Send, Take and Double come to, in plain terms. No program is walked here. -/
import Derived.Test.YtalfbhhldfffkaaBase
namespace Go.Proofs.Ytalfbhhldfffkaa
open Go.RowKit

/-- a number, counted round -/
def rnd (n : Int) (len : Nat) : Nat := ((IntKind.u64.wrap n).tmod (len : Int)).toNat
theorem rnd_lt (n : Int) (len : Nat) (h : 0 < len) : rnd n len < len := by
  unfold rnd
  have h0 : 0 ≤ IntKind.u64.wrap n := by rw [IntKind.wrap_u64]; omega
  rw [Int.tmod_eq_emod_of_nonneg h0]
  have := Int.emod_lt_of_pos (IntKind.u64.wrap n) (show (0 : Int) < len by omega)
  have := Int.emod_nonneg (IntKind.u64.wrap n) (show (len : Int) ≠ 0 by omega)
  omega
theorem rnd_wrap (n : Int) (len : Nat) (h : 0 < len) (hb : len ≤ 9223372036854775807) : wrap64 ((IntKind.u64.wrap n).tmod (len : Int)) = (rnd n len : Int) := by
  have h1 := rnd_lt n len h
  unfold rnd at h1 ⊢
  have h0 : 0 ≤ IntKind.u64.wrap n := by rw [IntKind.wrap_u64]; omega
  rw [Int.tmod_eq_emod_of_nonneg h0] at h1 ⊢
  have := Int.emod_nonneg (IntKind.u64.wrap n) (show (len : Int) ≠ 0 by omega)
  rw [Int.toNat_of_nonneg this]
  unfold wrap64
  omega

def pSend (l : List Packet) (m : Packet) : Bool × List Packet := if l.length < 40 then (true, l ++ [m]) else (false, l)
def pTake (l : List Packet) (n : Int) : Packet × Bool × List Packet :=
  match l[rnd n l.length]? with
  | some m => (m, true, l.take (rnd n l.length) ++ l.drop (rnd n l.length + 1))
  | none => (Packet.zero, false, l)
def pDouble (l : List Packet) (n : Int) : Bool × List Packet :=
  match l[rnd n l.length]? with
  | some m => pSend l m
  | none => (false, l)
theorem pSend_le {l : List Packet} (m : Packet) (h : l.length ≤ 40) : (pSend l m).2.length ≤ 40 := by unfold pSend; split <;> simp <;> omega
theorem pTake_le {l : List Packet} (n : Int) (h : l.length ≤ 40) : (pTake l n).2.2.length ≤ 40 := by unfold pTake; split <;> simp <;> omega
theorem pDouble_le {l : List Packet} (n : Int) (h : l.length ≤ 40) : (pDouble l n).2.length ≤ 40 := by
  unfold pDouble; split
  · exact pSend_le _ h
  · exact h

end Go.Proofs.Ytalfbhhldfffkaa
