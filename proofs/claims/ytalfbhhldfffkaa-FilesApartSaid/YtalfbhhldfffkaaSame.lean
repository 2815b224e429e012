/- Same: the walks of the reference's SameRecords. -/
import Derived.Test.YtalfbhhldfffkaaTypes
namespace Go.Proofs.Ytalfbhhldfffkaa
open Go.RowKit

set_option maxHeartbeats 400000 in
set_option maxRecDepth 100000 in
theorem sameRecords (w : World) (B : Nat) (A A' : Option Addr) (l r : List Record) (c c' : Nat) (hl : Reads w B A l) (hr : Reads w B A' r) (hm : l.length < 1000000) (hm' : r.length < 10000000) :
    Calls Try.prog 32 #[.slice A l.length c, .slice A' r.length c'] w (SamePost w l r) := by
  have H := Lib.hid hl
  have H' := Lib.hid hr
  clear hl hr
  by_cases hlen : l.length = r.length
  · have HL := Lib.hid hlen
    have e1 : ((l.length : Int) != (r.length : Int)) = false := by simp [hlen]
    clear hlen
    go_enter Try.func32, Try.ntmps32
    go_wp2
    go_loopw [5] (fun i wr => ∃ k n : Nat, wr = w.drewN n ∧ i = .int .i64 k ∧ k ≤ l.length ∧ l.take k = r.take k) (fun i _ => l.length - (intOf i).toNat)
    case atStart => exact ⟨0, 0, rfl, rfl, Nat.zero_le _, by simp⟩
    case round =>
      obtain ⟨k, n, rfl, rfl, hk, ht⟩ := hrel
      have HT := Lib.hid ht
      clear ht
      by_cases hlt : k < l.length
      · obtain ⟨p, hp⟩ : ∃ p, l[k]? = some p := ⟨l[k], by simp⟩
        have hlt' : k < r.length := by have := HL.out; omega
        obtain ⟨q, hq⟩ : ∃ q, r[k]? = some q := ⟨r[k], by simp⟩
        obtain ⟨ad, rfl, had, hrow⟩ := H.out k p hp
        obtain ⟨ad', rfl, had', hrow'⟩ := H'.out k q hq
        have h1 : ∀ n, LV Try.prog 63 (ad.add (k * 8)) (w.drewN n) = .ok (.agg p.cells) (w.drewN n) := fun n => LV_Record (w := w.drewN n) hrow
        have h2 : ∀ n, LV Try.prog 63 (ad'.add (k * 8)) (w.drewN n) = .ok (.agg q.cells) (w.drewN n) := fun n => LV_Record (w := w.drewN n) hrow'
        have HP := Lib.hid hp
        have HQ := Lib.hid hq
        clear hp hq hrow hrow'
        by_cases hpq : p = q
        · subst hpq
          go_wp2
          go_quiet (fail)
          go_wp2
          go_roundw
          case rel => exact ⟨k + 1, _, rfl, by go_num, by omega, take_succ_eq HP.out HQ.out HT.out⟩
          case measure => simp [intOf]; omega
        · have hd : decide (p = q) = false := by simp [hpq]
          have HPQ := Lib.hid hpq
          clear hpq
          go_wp2
          go_quiet (fail)
          go_wp2
          go_ret
          exact ⟨by rw [decide_eq_false (by rintro rfl; have h1 := HP.out; rw [HQ.out] at h1; exact HPQ.out (Option.some.inj h1).symm)]; rfl, n + nq, by first | rfl | rw [World.drewN_drewN]⟩
      · go_wp2
        go_ret
        exact ⟨by rw [decide_eq_true (eq_of_take HL.out k (by omega) HT.out)]; rfl, n, rfl⟩
  · have e1 : ((l.length : Int) != (r.length : Int)) = true := by rw [bne_iff_ne]; omega
    have HL := Lib.hid hlen
    clear hlen
    go_enter Try.func32, Try.ntmps32
    go_wp2
    go_ret
    exact ⟨by rw [decide_eq_false (by rintro rfl; exact HL.out rfl)]; rfl, 0, rfl⟩
end Go.Proofs.Ytalfbhhldfffkaa
