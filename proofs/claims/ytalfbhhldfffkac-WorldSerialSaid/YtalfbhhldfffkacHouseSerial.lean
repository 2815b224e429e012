/- HouseSerial: from where on a client's open call may be answered, in a script. No program is walked here. -/
import Derived.Test.YtalfbhhldfffkacGPlain
namespace Go.Proofs.Ytalfbhhldfffkac
open Go.RowKit

def frUpto (l : List Step) : Nat → Nat → Nat
  | 0 => fun _ => 0
  | k + 1 => match l[k]? with | some x => frStep (frUpto l k) (hSteps hNew (l.take k)) x | none => frUpto l k
theorem frUpto_succ {l : List Step} {k : Nat} {x : Step} (hx : l[k]? = some x) : frUpto l (k + 1) = frStep (frUpto l k) (hSteps hNew (l.take k)) x := by
  show (match l[k]? with | some x => frStep (frUpto l k) (hSteps hNew (l.take k)) x | none => frUpto l k) = _
  rw [hx]
theorem frUpto_ok (l : List Step) : ∀ k, k ≤ l.length → HouseOk (hSteps hNew (l.take k)) (frUpto l k)
  | 0, _ => hNew_ok
  | k + 1, h => by
    obtain ⟨x, hx⟩ : ∃ x, l[k]? = some x := ⟨l[k]'(by omega), by simp⟩
    rw [hSteps_take hx, frUpto_succ hx]
    exact hStep_ok (frUpto_ok l k (by omega)) x
def cells3 (f : Nat → Nat) : Array Value := #[.int .i64 (f 0), .int .i64 (f 1), .int .i64 (f 2)]
theorem cells3_get (f : Nat → Nat) {q : Nat} (hq : q < 3) : (cells3 f)[q]? = some (.int .i64 (f q)) := by
  match q, hq with
  | 0, _ => rfl
  | 1, _ => rfl
  | 2, _ => rfl
def wasArr (d : Nat → Nat) : Nat → Array Value
  | 0 => #[.int .i64 0, .int .i64 0, .int .i64 0]
  | 1 => #[.int .i64 (d 0), .int .i64 0, .int .i64 0]
  | 2 => #[.int .i64 (d 0), .int .i64 (d 1), .int .i64 0]
  | _ => cells3 d
theorem cells3_set (f : Nat → Nat) {j : Nat} (hj : j < 3) (m : Nat) : (cells3 f).setIfInBounds j (.int .i64 m) = cells3 (upd f j m) := by
  match j, hj with
  | 0, _ => simp [cells3, upd]
  | 1, _ => simp [cells3, upd]
  | 2, _ => simp [cells3, upd]
theorem frStep_yes {fr : Nat → Nat} {h : House} {x : Step} (hy : x.kind = 1 ∧ (hStep h x).1 = 0) : frStep fr h x = upd fr x.n.toNat (hStep h x).2.S.length := by unfold frStep; rw [if_pos hy]
theorem frStep_no {fr : Nat → Nat} {h : House} {x : Step} (hy : ¬ (x.kind = 1 ∧ (hStep h x).1 = 0)) : frStep fr h x = fr := by unfold frStep; rw [if_neg hy]
end Go.Proofs.Ytalfbhhldfffkac
