/- Law: what the closing texts share. -/
import Derived.Test.YtalfbhhldfffkabGreatDoorRead
namespace Go.Proofs.YtalfbhhldfffkabGreatDoor
open Go.ChangeShapes Go.WideShapes Go.ChangeAt Go.RowKit

theorem own_knob : ownKnob Tryz.prog.godebug = none := by kernel_rfl
theorem laid_out : laidOutB Tryz.prog = true := by kernel_rfl
theorem weights_arg {H : Type} {P : Program} {ts us : List TypeId} {ds gs : List (DataW H)} (hsz : (DataW.weightsEach P (ts ++ us) (ds ++ gs)).all (· ≤ reachBytes) = true) {j : Nat} {t : TypeId} {d : DataW H}
    (ht : ts[j]? = some t) (hd : ds[j]? = some d) : ∀ k ∈ d.weights P t, k ≤ reachBytes := fun k hk => by
  have h1 : (ts ++ us)[j]? = some t := by rw [List.getElem?_append_left (List.getElem?_eq_some_iff.1 ht).1]; exact ht
  have h2 : (ds ++ gs)[j]? = some d := by rw [List.getElem?_append_left (List.getElem?_eq_some_iff.1 hd).1]; exact hd
  exact of_decide_eq_true (List.all_eq_true.1 hsz k (DataW.weights_mem_each h1 h2 k hk))
theorem reads_all {P : Program} {ts : List TypeId} (h : (ts.all fun t => P.readableRec t && decide (t < P.types.size)) = true) : ∀ t ∈ ts, P.readableRec t = true ∧ t < P.types.size := fun t ht => by
  have := List.all_eq_true.1 h t ht
  simpa using this
theorem open_i64 {H : Type} {enc : TypeId × Value → H} {P : Program} {W : World} {spare : Nat → Bool} {held : Bool} {t : TypeId} {r : Reach} {b0 : Nat} {v : Value} {d : DataW H} {p : List MemPlace} (ht : P.underlying t = some (.int .i64)) (hval : Value.okWide P W r b0 t v)
    (h : DataW.Trod enc P W 0 spare held t v d p) (hw : ∀ k ∈ d.weights P t, k ≤ reachBytes) : ∃ n : Int, v = .int .i64 n ∧ I64 n := by
  obtain ⟨n, rfl⟩ := okWide_int ht hval
  obtain ⟨fuel, hf⟩ := h
  obtain ⟨y, hy, ho⟩ := (can_int ht).get hf hw
  simp [Value.cells] at hy
  subst hy
  exact ⟨_, rfl, ho⟩
theorem open_str {H : Type} {enc : TypeId × Value → H} {P : Program} {W : World} {spare : Nat → Bool} {held : Bool} {t : TypeId} {r : Reach} {b0 : Nat} {v : Value} {d : DataW H} {p : List MemPlace} (ht : P.underlying t = some .string) (hval : Value.okWide P W r b0 t v)
    (h : DataW.Trod enc P W 0 spare held t v d p) (hw : ∀ k ∈ d.weights P t, k ≤ reachBytes) : ∃ s : ByteArray, v = .string s ∧ Str s := by
  obtain ⟨s, rfl⟩ := okWide_string ht hval
  obtain ⟨fuel, hf⟩ := h
  obtain ⟨y, hy, ho⟩ := (can_str ht).get hf hw
  simp [Value.cells] at hy
  subst hy
  exact ⟨_, rfl, ho⟩
theorem can_byte {P : Program} {ty : TypeId} (h : P.underlying ty = some (.int .u8)) : CanRead P ty (fun n : UInt8 => (Lies.cells n).toList) (fun _ => True) := ⟨fun ht _ => by
  obtain ⟨n, h1, _, h3⟩ := DataW.trod_int h ht
  simp [Lit.wf, IntKind.min, IntKind.max, IntKind.signed, IntKind.bits] at h3
  refine ⟨UInt8.ofNat n.toNat, ?_, trivial⟩
  rw [h1]
  show [Value.int .u8 n] = [Value.int .u8 ((UInt8.ofNat n.toNat).toNat : Int)]
  rw [UInt8.toNat_ofNat']
  congr 2
  omega⟩
theorem can_text {P : Program} {ty : TypeId} (h : P.underlying ty = some .string) : CanRead P ty (fun n : ByteArray => (Lies.cells n).toList) Str := can_str h
theorem len_le {P : Program} {e : TypeId} {n : Nat} (h : n * P.bytesOf e ≤ reachBytes) (hb : 0 < P.bytesOf e) : n ≤ 140737488351232 := by
  have := Nat.le_mul_of_pos_right n hb
  unfold reachBytes at h
  omega
theorem open_cap {H : Type} {enc : TypeId × Value → H} {P : Program} {W : World} {spare : Nat → Bool} {held : Bool} {t e : TypeId} (ht : P.underlying t = some (.slice e)) {A : Option Addr} {n c : Nat} {d : DataW H} {p : List MemPlace}
    (h : DataW.Trod enc P W 0 spare held t (.slice A n c) d p) : c ≤ maxLen := by
  obtain ⟨fuel, hf⟩ := h
  simp only [Value.cells] at hf
  rcases Deep.open_slice ht hf with ⟨hcs, _⟩ | ⟨a, len', cap', m, n, D, Pl, hcs, _, hl, hm, _⟩
  · simp at hcs
    rw [hcs.2.2]
    exact Nat.zero_le _
  · simp at hcs
    rw [hcs.2.2]
    exact hm
end Go.Proofs.YtalfbhhldfffkabGreatDoor
