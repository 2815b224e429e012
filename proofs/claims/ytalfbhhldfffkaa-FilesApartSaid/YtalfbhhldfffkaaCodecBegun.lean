/- CodecBegun: the walks of codecBegun and greatRecord. -/
import Derived.Test.YtalfbhhldfffkaaCodec6
import Derived.Test.YtalfbhhldfffkaaSame
namespace Go.Proofs.Ytalfbhhldfffkaa
open Go.RowKit

theorem Owns.bytesIn {w : World} {E : TypeId} {A : Option Addr} {n c : Nat} {l : List UInt8} (h : Owns w E (.slice A n c) l) : BytesIn w.heap.size w A n c l := by
  obtain ⟨A', c', e, hc, hm, hr⟩ := h.form
  cases e
  exact ⟨rfl, hc, hm, hr, Nat.le_refl _⟩
theorem bytesIn_nil (w : World) : BytesIn w.heap.size w none 0 0 [] := ⟨rfl, Nat.le_refl _, by simp [maxLen], Reads.nil _ _ _, Nat.le_refl _⟩

def greatRB (r : Record) : Bool := greatB r.call || decide (300 < r.answer.text.size)
set_option maxHeartbeats 400000 in
theorem law_greatRecord (w : World) (r : Record) (hs : StrCall r.call) (ha : r.answer.text.size ≤ 140737488351232) :
    Calls Try.prog 38 #[.agg r.cells] w fun e w' => e = .returned (.bool (greatRB r)) ∧ Ext w w' := by
  have HS := Lib.hid hs
  have hai : (r.answer.text.size : Int) ≤ 140737488351232 := by omega
  clear hs
  cases hg : greatB r.call with
  | true =>
    have HG := Lib.hid (show greatRB r = true by unfold greatRB; rw [hg]; rfl)
    go_enter Try.func38, Try.ntmps38
    go_wp2_with fail
    refine (law_greatCall' _ r.call true hg HS.out).mono ?_
    rintro e w' ⟨rfl, rfl⟩
    clear hg
    go_wp2
    go_ret
    exact ⟨by rw [HG.out]; rfl, ((Touch.refl _ _).alloc _).alloc _⟩
  | false =>
    have HG := Lib.hid (show greatRB r = decide ((300 : Int) < (r.answer.text.size : Int)) by unfold greatRB; rw [hg, Bool.false_or, decide_eq_decide]; omega)
    go_enter Try.func38, Try.ntmps38
    go_wp2_with fail
    refine (law_greatCall' _ r.call false hg HS.out).mono ?_
    rintro e w' ⟨rfl, rfl⟩
    clear hg
    go_wp2
    go_ret
    exact ⟨by rw [HG.out]; rfl, ((Touch.refl _ _).alloc _).alloc _⟩

def cbR : Record := ⟨1, 7, ⟨3, ⟨#[97]⟩, ⟨#[98, 99]⟩, ⟨#[]⟩⟩, ⟨6, ⟨#[]⟩⟩⟩
def cbB : List UInt8 := [11, 1, 7, 3, 6, 1, 97, 2, 98, 99, 0]
theorem cbR_call : callCode cbR.call = 0 := by
  unfold callCode cbR okText
  simp [ByteArray.toList_eq, ByteArray.size]
theorem cbR_ok : RecOk cbR := ⟨by decide, by decide, by decide, cbR_call, by decide, rfl⟩
theorem cbR_code : recCode cbR = 0 := recCode_of cbR_ok
theorem cbR_bytes : recBytes cbR = cbB := by
  unfold recBytes recBody strBytes cbR cbB
  simp [ByteArray.toList_eq, ByteArray.size, toByte]
theorem cbR_enc : encBytes cbR = cbB := by rw [← cbR_bytes]; exact if_pos cbR_code
theorem cb_dec : decode (cbB ++ [9]) = (cbR, 11, 0) := by
  have := decode_bytes cbR_ok [9]
  rw [cbR_bytes] at this
  exact this
theorem cb_all : recAll (cbB ++ cbB) = [cbR, cbR] := by
  have := recAll_log (l := [cbR, cbR]) (fun r hr => by simp at hr; rw [hr]; exact cbR_ok)
  rwa [show logBytes [cbR, cbR] = cbB ++ cbB by simp [logBytes, cbR_bytes]] at this
theorem cb_log : (logBytes [cbR, cbR]).length = 22 := by simp [logBytes, cbR_bytes, cbB]

theorem cbR_str : StrCall cbR.call := ⟨by decide, by decide, by decide⟩
theorem cb_encode (w : World) : Calls Try.prog 39 #[.agg cbR.cells] w fun e w' => ∃ A c, e = .returned (.tuple #[.slice A 11 c, .int .i64 0]) ∧ Owns w' 5 (.slice A 11 c) cbB ∧ Ext w w' := by
  refine (codec_encode w cbR cbR_str).mono fun e w' ⟨A, c, he, ho, hx, _⟩ => ?_
  rw [cbR_enc, cbR_code] at *
  exact ⟨A, c, he, ho, hx⟩
theorem cb_decode (w : World) (A : Option Addr) (c : Nat) (h : Owns w 5 (.slice A 12 c) (cbB ++ [9])) : Calls Try.prog 42 #[.slice A 12 c] w fun e w' => e = .returned (.tuple #[.agg cbR.cells, .int .i64 11, .int .i64 0]) ∧ Ext w w' := by
  refine (codec_decode w A 12 c (cbB ++ [9]) h.bytesIn (by decide)).mono fun e w' ⟨he, hx⟩ => ⟨?_, hx⟩
  rw [cb_dec] at he
  exact he
theorem cb_decode0 (w : World) : Calls Try.prog 42 #[.slice none 0 0] w fun e w' => e = .returned (.tuple #[.agg Record.zero.cells, .int .i64 0, .int .i64 8]) ∧ Ext w w' :=
  codec_decode w none 0 0 [] (bytesIn_nil w) (by decide)
theorem cb_allof (w : World) (A : Option Addr) (c : Nat) (h : Owns w 5 (.slice A 22 c) (cbB ++ cbB)) : Calls Try.prog 44 #[.slice A 22 c] w fun e w' => ∃ A' c', e = .returned (.tuple #[.slice A' 2 c', .int .i64 22]) ∧ Ext w w' := by
  refine (codec_all w A 22 c (cbB ++ cbB) h.bytesIn (by decide)).mono fun e w' ⟨A', c', he, _, hx, _⟩ => ⟨A', c', ?_, hx⟩
  rw [cb_all, cb_log] at he
  exact he
set_option maxHeartbeats 4000000 in
set_option maxRecDepth 100000 in
theorem codec_begun (W : World) : Calls Try.prog 37 #[] W fun e w' => e = .returned (.bool true) ∧ Ext W w' := by
  have EW := Lib.hid (Touch.alloc (Touch.refl (fun _ => False) W) (.cells cbR.cells 63))
  have hbR : (W.alloc (.cells cbR.cells 63)).heap[W.heap.size]? = some (.cells cbR.cells 63) := heap_alloc_new _ _
  go_enter Try.func37, Try.ntmps37
  go_wp2_with fail
  change Calls Try.prog _ #[.agg cbR.cells] (W.alloc (.cells cbR.cells 63)) _
  generalize W.alloc (.cells cbR.cells 63) = V at EW hbR ⊢
  generalize W.heap.size = bR at hbR ⊢
  have HBR := Lib.hid hbR
  clear hbR
  refine (cb_encode V).mono ?_
  rintro e w1 ⟨A1, c1, rfl, ho1, hx1⟩
  have O1 := Lib.hid ho1
  have X1 := Lib.hid hx1
  have RD1 := Lib.hid (Owns.reads ho1)
  clear ho1 hx1
  go_wp2_with (first
    | (at_builtin; refine wpList_append_own' (by rfl) (.const (.slice none 0 0)) (.tmp 21) 66 (by rfl) elemByte Try.underlying66 (v := .slice none 0 0) (l := []) (by rfl) (Owns.nil _ _) cbB (by rfl) 11 (by rfl) (by rfl) RD1.out (by decide) ?_
       intro A2 c2 w2 hown hgrow hat
       have O2 := Lib.hid hown
       have X2 := Lib.hid (Touch.grown (Touch.refl (fun _ => False) w1) hgrow (fun k hk => by simp [Value.ownBlock] at hk))
       have HB2 := Lib.hid hat
       clear hown hgrow hat)
    | (at_builtin; refine wpList_append_own' (by rfl) (.tmp 22) (.tmp 23) 66 (by rfl) elemByte Try.underlying66 (v := .slice A2 11 c2) (l := cbB) (by rfl) (O2.out.ext ((Touch.refl _ w2).alloc _)) [9] (by rfl) 12 (by rfl) (by rfl) (reads_block (x := (9 : UInt8)) (t := 5) (fr := (0, 0)) (heap_alloc_new _ _) (w2.heap.size + 1) (by omega)) (by decide) ?_
       intro A3 c3 w3 hown hgrow hat
       have O3 := Lib.hid hown
       have X3 := Lib.hid (Touch.grown (Touch.then X2.out ((Touch.refl (fun _ => False) w2).alloc (.cells #[.int .u8 9] 5)) fun _ h => h.elim) hgrow (fun k hk => .inr (by
         rcases HB2.out with e | e
         · rw [e] at hk; simp [Value.ownBlock] at hk
         · rw [e] at hk; injection hk with hk; omega)))
       clear hown hgrow hat))
  refine (cb_decode w3 A3 c3 O3.out).mono ?_
  rintro e w4 ⟨rfl, hx4⟩
  have X4 := Lib.hid (X3.out.then hx4 fun _ h => h.elim)
  clear hx4 O3 O2 HB2 X2 X3
  go_wp2_with fail
  have hb5 : (w4.alloc (.cells cbR.cells 63)).heap[w4.heap.size]? = some (.cells cbR.cells 63) := heap_alloc_new _ _
  have X5 := Lib.hid (X4.out.alloc (.cells cbR.cells 63))
  generalize w4.alloc (.cells cbR.cells 63) = w5 at hb5 X5 ⊢
  generalize w4.heap.size = b5 at hb5 ⊢
  have HB5 := Lib.hid hb5
  clear hb5 X4
  refine (cb_decode0 w5).mono ?_
  rintro e w6 ⟨rfl, hx6⟩
  have X6 := Lib.hid (hx6.alloc (.cells Record.zero.cells 63))
  clear hx6
  go_wp2_with (first
    | (at_builtin; refine wpList_append_own' (by rfl) (.const (.slice none 0 0)) (.tmp 35) 66 (by rfl) elemByte Try.underlying66 (v := .slice none 0 0) (l := []) (by rfl) (Owns.nil _ _) cbB (by rfl) 11 (by rfl) (by rfl) (RD1.out.ext (Touch.then X5.out X6.out fun _ h => h.elim)) (by decide) ?_
       intro A2 c2 w7 hown hgrow hat
       have O2 := Lib.hid hown
       have X7 := Lib.hid (Touch.grown X6.out hgrow (fun k hk => by simp [Value.ownBlock] at hk))
       have HB2 := Lib.hid hat
       clear hown hgrow hat)
    | (at_builtin; refine wpList_append_own' (by rfl) (.tmp 36) (.tmp 37) 66 (by rfl) elemByte Try.underlying66 (v := .slice A2 11 c2) (l := cbB) (by rfl) O2.out cbB (by rfl) 22 (by rfl) (by rfl) (RD1.out.ext (Touch.then X5.out X7.out fun _ h => h.elim)) (by decide) ?_
       intro A3 c3 w8 hown hgrow hat
       have O3 := Lib.hid hown
       have X8 := Lib.hid (Touch.grown X7.out hgrow (fun k hk => .inr (by
         have := X6.out.size
         rcases HB2.out with e | e
         · rw [e] at hk; simp [Value.ownBlock] at hk
         · rw [e] at hk; injection hk with hk; omega)))
       clear hown hgrow hat))
  refine (cb_allof w8 A3 c3 O3.out).mono ?_
  rintro e w9 ⟨A9, c9, rfl, hx9⟩
  have X9 := Lib.hid (X8.out.then hx9 fun _ h => h.elim)
  have XA := Lib.hid (X5.out.then X9.out fun _ h => h.elim)
  have hb4 := X9.out.blk HB5.out id
  obtain ⟨hl4, hb4'⟩ := Array.getElem?_eq_some_iff.1 hb4
  have hb1 := XA.out.blk (X1.out.blk HBR.out id) id
  obtain ⟨hl1, hb1'⟩ := Array.getElem?_eq_some_iff.1 hb1
  have hcv : (convert 66 9 (.slice A1 11 c1)).run Try.prog w9 = .ok (.string ⟨#[11, 1, 7, 3, 6, 1, 97, 2, 98, 99, 0]⟩) w9 :=
    run_convert_reads (P := Try.prog) Try.underlying66 Try.underlying5 Try.underlying9 (RD1.out.ext XA.out) c1
  have hdd : decide (cbR = cbR) = true := by simp
  clear hx9
  go_wp2
  go_ret
  exact ⟨rfl, (EW.out.then X1.out fun _ h => h.elim).then XA.out fun _ h => h.elim⟩
end Go.Proofs.Ytalfbhhldfffkaa
