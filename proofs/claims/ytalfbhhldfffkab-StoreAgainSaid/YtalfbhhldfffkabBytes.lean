/- Bytes: slices of bytes and strings: append of a string's bytes, conversions. No program is walked here. -/
import Derived.Test.YtalfbhhldfffkabMem
import Derived.Test.YtalfbhhldfffkabCodecP
import Derived.Lib.AppendStr
import Derived.Laws.IdiomStrings
namespace Go.Proofs.Ytalfbhhldfffkab
open Go.RowKit

theorem flat_bytes (l : List UInt8) : flat l = l.map fun b => Value.int .u8 b.toNat := by
  induction l with
  | nil => rfl
  | cons b l ih => simp only [List.map_cons, ← ih]; rfl
theorem strCells_flat (s : ByteArray) : Lib.strCells s = flat s.toList := by
  rw [flat_bytes, ByteArray.toList_eq]; rfl
/-- where a string that is appended to owned bytes lies -/
theorem run_append_text {P : Program} {w : World} {e : TypeId} (hE : (P.info? e).map (fun i => (i.zero, i.size, i.bytes)) = some (some (.int .u8 0), 1, 1)) (t u ty : TypeId) (ht : P.underlying t = some (.slice e)) (hu : P.underlying u = some .string)
    {v : Value} {l : List UInt8} (hown : Owns w e v l) (s : ByteArray) (hsz : l.length + s.size ≤ 140737488355328) :
    ∃ A' c' w', (Builtin.append_ #[t, u] ty #[v, .string s]).run P w = .ok (.slice A' (l.length + s.size) c') w' ∧ Owns w' e (.slice A' (l.length + s.size) c') (l ++ s.toList) ∧ w.grownBy w' v.ownBlock ∧
      ((Value.slice A' (l.length + s.size) c').ownBlock = v.ownBlock ∨ (Value.slice A' (l.length + s.size) c').ownBlock = some w.heap.size) := by
  obtain ⟨i, hi, hz, hs, hb⟩ : ∃ i, P.info? e = some i ∧ i.zero = some (.int .u8 0) ∧ i.size = 1 ∧ i.bytes = 1 := by
    cases hq : P.info? e with
    | none => rw [hq] at hE; cases hE
    | some i => rw [hq] at hE; simp at hE; exact ⟨i, rfl, hE⟩
  have hle : l.length + s.size ≤ maxLen := by unfold maxLen; omega
  obtain ⟨v', w', hr, h2, h3, h4⟩ := Lib.run_append_own_string (P := P) w 0 t u ty e i ht hu hi hz hs hb v l.length (flat l) hown s hle hsz (Nat.zero_le _)
  rw [strCells_flat, ← flat_append] at h2
  have hlen : (l ++ s.toList).length = l.length + s.size := by rw [List.length_append, length_toList']
  have h5 : Owns w' e v' (l ++ s.toList) := by unfold Owns; rw [hlen]; exact h2
  obtain ⟨A', c', rfl, _⟩ := h5.form
  rw [hlen] at h5 hr h4
  refine ⟨A', c', w', hr, h5, h3, ?_⟩
  rcases hown.2 with ⟨rfl, h0⟩ | ⟨g, cap, cur, rfl, _, hg, hnc, hcm, hcs, htk⟩
  · by_cases hm : s.size = 0
    · left
      have := h4.2 ⟨rfl, hm⟩
      rw [this]
    · right
      have hr2 := run_append_nil_string (P := P) w t u ty e i (.int .u8 0) ht hu hi hz s (by omega) (by omega) (by rw [hb]; omega)
      rw [hr] at hr2
      injection hr2 with hr2 _
      rw [hr2]
      rfl
  · by_cases hroom : l.length + s.size ≤ cap
    · left
      have hcs' : cur.size = cap := hcs.trans (Nat.mul_one cap)
      have hr2 := Lib.run_append_room_string (P := P) w t u ty e i ht hu hi hs g l.length cap cur hg s hroom (by omega)
      rw [hr] at hr2
      injection hr2 with hr2 _
      rw [hr2]
      rfl
    · right
      have hr2 := Lib.run_append_grow_string (P := P) w t u ty e i (.int .u8 0) ht hu hi hz ⟨g, 0, none⟩ l.length cap (flat l) (by rw [hs, length_flat]; rfl) (World.ownsRow.cells hown (g := g) rfl) s (by omega) (by omega) (by rw [hb]; exact growslice_fits (by omega) (by omega))
      rw [hr] at hr2
      injection hr2 with hr2 _
      rw [hr2]
      rfl
/-- string(b) -/
theorem run_convert_reads {P : Program} {w : World} {src dst e : TypeId} (hs : P.underlying src = some (.slice e)) (he : P.underlying e = some (.int .u8)) (hd : P.underlying dst = some .string) {B : Nat} {A : Option Addr} {l : List UInt8} (h : Reads w B A l) (c : Nat) :
    (convert src dst (.slice A l.length c)).run P w = .ok (.string (mkStr l)) w := by
  rcases A with _ | ad
  · have hl : l = [] := by
      cases l with
      | nil => rfl
      | cons x r => obtain ⟨ad, h, _⟩ := h 0 x rfl; cases h
    subst hl
    rw [run_convert_bytes_string w src dst e _ _ _ hs he hd]
    rfl
  · exact run_convert_bytes_back w src dst e ad c l hs he hd fun j hj => by
      obtain ⟨ad', e1, _, hat⟩ := h j l[j] (List.getElem?_eq_getElem hj)
      cases e1
      have := hat 0 (.int .u8 (l[j].toNat : Int)) rfl
      rwa [addr_add_add, show j * Lies.size UInt8 + 0 = j from Nat.mul_one j] at this
theorem mkStr_inj {a b : List UInt8} : mkStr a = mkStr b ↔ a = b := ⟨fun h => by have := congrArg ByteArray.toList h; rwa [mkStr_toList, mkStr_toList] at this, fun h => by rw [h]⟩
end Go.Proofs.Ytalfbhhldfffkab
