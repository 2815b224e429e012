/- DrawerC: the reference's Drawer: at. -/
import Derived.Test.YtalfbhhldfffkabFilesBegun
namespace Go.Proofs.Ytalfbhhldfffkab
open Go.RowKit

def atInt (d : List FileD) (s : ByteArray) : Int := match dAt d s with | some i => (i : Int) | none => -1
set_option maxHeartbeats 1000000 in
set_option maxRecDepth 100000 in
theorem drawer_at (w : World) (B : Nat) (A : Option Addr) (c : Nat) (d : List FileD) (s : ByteArray) (hr : Reads w B A d) (hl : d.length ≤ 1000) :
    Calls Try.prog 93 #[.slice A d.length c, .string s] w fun e w' => e = .returned (.int .i64 (atInt d s)) ∧ w' = w := by
  have HR := Lib.hid hr
  clear hr
  go_enter Try.func93, Try.ntmps93
  go_wp2
  go_loopw [5] (fun i wr => ∃ k : Nat, i = .int .i64 k ∧ k ≤ d.length ∧ (∀ (j : Nat) g, j < k → d[j]? = some g → g.name ≠ s) ∧ wr = w) (fun i _ => d.length - (intOf i).toNat)
  case atStart => exact ⟨0, rfl, Nat.zero_le _, fun j g hj => by omega, rfl⟩
  case round =>
    obtain ⟨k, rfl, hk, hb, rfl⟩ := hrel
    have HB := Lib.hid hb
    clear hb
    by_cases hlt : k < d.length
    · obtain ⟨f, hf⟩ : ∃ f, d[k]? = some f := ⟨d[k], by simp [hlt]⟩
      obtain ⟨ad, rfl, hadb, hat⟩ := HR.out k f hf
      have hcn : wr.cell? (ad.add (k * 2)) = some (.string f.name) := hat 0 (.string f.name) rfl
      have HF := Lib.hid hf
      clear hf hat
      by_cases e1 : f.name = s
      · have he1 : (f.name.toList == s.toList) = true := by rw [e1]; simp
        have HE := Lib.hid e1
        clear e1
        go_wp2
        go_ret
        refine ⟨?_, rfl⟩
        rw [show atInt d s = (k : Int) from by unfold atInt; rw [dAt_first HF.out HE.out HB.out]]
        rfl
      · have he1 : (f.name.toList == s.toList) = false := beq_eq_false_iff_ne.2 fun h => e1 (toList_inj h)
        have HE := Lib.hid e1
        clear e1
        go_wp2
        go_roundw
        case rel =>
          refine ⟨k + 1, by go_num, by omega, fun j g hj hg => ?_, by first | rfl | trivial⟩
          by_cases e : j = k
          · subst e; rw [HF.out] at hg; injection hg with hg; subst hg; exact HE.out
          · exact HB.out j g (by omega) hg
        case measure => simp [intOf]; omega
    · obtain rfl : k = d.length := by omega
      go_wp2
      go_ret
      refine ⟨?_, rfl⟩
      rw [show atInt d s = -1 from by
        unfold atInt
        rw [dAt_none' fun f hf => by
          obtain ⟨j, hj, e⟩ := List.getElem_of_mem hf
          exact HB.out j f hj (by rw [List.getElem?_eq_getElem hj, e])]]
      rfl
end Go.Proofs.Ytalfbhhldfffkab
