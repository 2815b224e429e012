/- Codec4: the walks of codec's text, Decode, All. -/
import Derived.Test.YtalfbhhldfffkabCodec3
import Derived.Deep.QuietTactic
import Derived.BigQuiet
namespace Go.Proofs.Ytalfbhhldfffkab
open Go.RowKit BigFrame

/-- where a cut slice begins -/
def cutA (a : Option Addr) (m l s : Nat) : Option Addr := if m = l then a else a.map (·.add (l * s))
theorem sliced_cut (a : Option Addr) (l h m s : Nat) : sliced a l h m s = .slice (cutA a m l s) (h - l) (m - l) := rfl
attribute [local go_sem ↓] sliced_cut
theorem Reads.cutA {α : Type} [Lies α] {w : World} {B : Nat} {a : Option Addr} {l : List α} (h : Reads w B a l) {m : Nat} (hm : l.length ≤ m) (j : Nat) : Reads w B (cutA a m j (Lies.size α)) (l.drop j) := by
  rcases a with _ | ad
  · have hl : l = [] := by
      cases l with
      | nil => rfl
      | cons x r => obtain ⟨ad, h, _⟩ := h 0 x rfl; cases h
    subst hl
    rw [List.drop_nil]
    exact Reads.nil _ _ _
  · refine h.cut j m hm ?_
    unfold Ytalfbhhldfffkab.cutA
    split <;> rfl
/-- a slice of bytes, as the walks meet it -/
structure BytesIn (B : Nat) (w : World) (A : Option Addr) (n c : Nat) (l : List UInt8) : Prop where
  len : n = l.length
  cap : l.length ≤ c
  max : c ≤ maxLen
  reads : Reads w B A l
  below : B ≤ w.heap.size
theorem BytesIn.ext {B : Nat} {w w' : World} {A : Option Addr} {n c : Nat} {l : List UInt8} (h : BytesIn B w A n c l) (hx : Ext w w') : BytesIn B w' A n c l :=
  ⟨h.len, h.cap, h.max, h.reads.below fun k hk => hx.block k (Nat.lt_of_lt_of_le hk h.below) id, Nat.le_trans h.below hx.size⟩

/-- Behind text(b). -/
def TextPost (B : Nat) (w : World) (A : Option Addr) (c : Nat) (l : List UInt8) (e : Ending) (w' : World) : Prop :=
  (parseStr l = none ∧ e = .returned (.tuple #[.string ⟨#[]⟩, .slice none 0 0, .bool false]) ∧ Ext w w') ∨
  (∃ s rest, parseStr l = some (s, rest) ∧ ∃ A' c', e = .returned (.tuple #[.string s, .slice A' rest.length c', .bool true]) ∧ BytesIn B w' A' rest.length c' rest ∧ Ext w w')

set_option maxHeartbeats 2000000 in
theorem codec_text (B : Nat) (w : World) (A : Option Addr) (n c : Nat) (l : List UInt8) (h : BytesIn B w A n c l) (hl : l.length ≤ 10000) :
    Calls Try.prog 109 #[.slice A n c] w (TextPost B w A c l) := by
  obtain ⟨rfl, hcap, hmax, hrd, hbel⟩ := h
  have hm := hmax
  unfold maxLen at hm
  cases l with
  | nil =>
    clear hrd
    go_enter Try.func109, Try.ntmps109
    go_wp2
    go_ret3
    exact .inl ⟨by rfl, rfl, Touch.refl _ _⟩
  | cons x l =>
    obtain ⟨ad, rfl, _, hat⟩ := hrd 0 x rfl
    have hc0 : w.cell? ad = some (.int .u8 (x.toNat : Int)) := hat 0 _ rfl
    have hx1 : (0 : Int) ≤ x.toNat := by omega
    have hx2 : (x.toNat : Int) ≤ 255 := by have := x.toNat_lt; omega
    have HR := Lib.hid hrd
    have hl1 : (x :: l).length = l.length + 1 := rfl
    have hl2 : l.length ≤ 10000 := by simp at hl; omega
    have hcap' : l.length + 1 ≤ c := hcap
    rw [hl1]
    clear hrd hat hl hcap hl1
    have hz : ((l.length : Int) + 1 == 0) = false := beq_eq_false_iff_ne.2 (by omega)
    by_cases hlt : l.length < x.toNat
    · have hd : decide ((l.length : Int) + 1 < 1 + (x.toNat : Int)) = true := decide_eq_true (by omega)
      have HP := Lib.hid (show parseStr (x :: l) = none from if_pos hlt)
      clear hlt
      go_enter Try.func109, Try.ntmps109
      go_wp2
      go_ret3
      exact .inl ⟨HP.out, rfl, Touch.refl _ _⟩
    · have hd : decide ((l.length : Int) + 1 < 1 + (x.toNat : Int)) = false := decide_eq_false (by omega)
      have HP := Lib.hid (show parseStr (x :: l) = some (mkStr (l.take x.toNat), l.drop x.toNat) from if_neg hlt)
      have hn1 : (x.toNat : Int) ≤ l.length := by omega
      have hn2 : (1 : Int) + x.toNat ≤ c := by omega
      have hn3 : (1 : Int) ≤ c := by omega
      have hcv : ∀ n, (convert 39 9 (.slice (cutA (some ad) c 1 1) x.toNat (c - 1))).run Try.prog (w.drewN n) = .ok (.string (mkStr (l.take x.toNat))) (w.drewN n) := fun n => by
        have h1 := ((HR.out.cutA (m := c) (by simp; omega) 1).take x.toNat).below (w' := w.drewN n) (fun _ _ => rfl)
        rw [show (x :: l).drop 1 = l from rfl] at h1
        have h2 := run_convert_reads (P := Try.prog) Try.underlying39 Try.underlying5 Try.underlying9 h1 (c - 1)
        rwa [show (l.take x.toNat).length = x.toNat by rw [List.length_take]; omega] at h2
      have hcut : l.length + 1 - (1 + x.toNat) = (l.drop x.toNat).length := by rw [List.length_drop]; omega
      have HCUT := Lib.hid hcut
      have hle := hlt
      clear hlt hcut
      go_enter Try.func109, Try.ntmps109
      go_wp2
      go_quiet (fail)
      go_wp2
      go_ret3
      refine .inr ⟨mkStr (l.take x.toNat), l.drop x.toNat, HP.out, cutA (some ad) c (1 + x.toNat) 1, c - (1 + x.toNat), ?_, ⟨rfl, by rw [List.length_drop]; omega, by unfold maxLen; omega, ?_, hbel⟩, (Touch.refl _ _).drewN _⟩
      · rw [← HCUT.out]; rfl
      · have h1 := (HR.out.cutA (m := c) (by simp; omega) (1 + x.toNat)).below (w' := w.drewN nq) (fun _ _ => rfl)
        rw [show (x :: l).drop (1 + x.toNat) = l.drop x.toNat by rw [Nat.add_comm]; rfl] at h1
        exact h1
end Go.Proofs.Ytalfbhhldfffkab
