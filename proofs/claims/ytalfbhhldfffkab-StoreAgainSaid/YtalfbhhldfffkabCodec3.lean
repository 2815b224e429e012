/- Codec3: the walk of the reference's BytesOf. -/
import Derived.Test.YtalfbhhldfffkabCodec2
namespace Go.Proofs.Ytalfbhhldfffkab
open Go.RowKit

/-- []byte(s) -/
theorem conv_bytes {P : Program} {src dst e : TypeId} (hs : P.underlying src = some .string) (hd : P.underlying dst = some (.slice e)) (he : P.underlying e = some (.int .u8)) (w : World) (s : ByteArray) :
    ∃ c w', (convert src dst (.string s)).run P w = .ok (.slice (some ⟨w.heap.size, 0, none⟩) s.size c) w' ∧ Ext w w' ∧ Reads w' w'.heap.size (some ⟨w.heap.size, 0, none⟩) s.toList ∧ w'.heap.size = w.heap.size + 1 := by
  refine ⟨_, _, run_bytes_of_string w src dst e s hs hd he, ((Touch.refl _ _).drew).alloc _, ?_, by simp⟩
  refine reads_row (heap_alloc_new _ _) (fun j v hj => ?_) (by simp)
  rw [flat_bytes, ByteArray.toList_eq] at hj
  unfold bytesRow
  have hj' : j < s.data.toList.length := by simpa using (List.getElem?_eq_some_iff.1 hj).1
  rw [Array.getElem?_append_left (by simpa using hj')]
  rw [← hj]
  simp [Array.getElem?_map]
theorem own_one {α : Type} [Lies α] {w : World} {b : Nat} {E : TypeId} {x : α} (h : w.heap[b]? = some (.cells (Lies.cells x) E (0, 0))) : Owns w E (.slice (some ⟨b, 0, none⟩) 1 1) [x] :=
  ⟨length_flat _, .inr ⟨b, 1, _, rfl, Nat.zero_le _, h, Nat.le_refl _, by simp [maxLen], by rw [Lies.size_eq, Nat.one_mul], by rw [flat_one, List.take_of_length_le]; simp [Lies.size_eq]⟩⟩
def bytesHead (r : Record) : List UInt8 := [toByte r.client, toByte r.no, toByte r.call.kind, toByte r.answer.code]
theorem bytes_body (r : Record) : bytesHead r ++ strsBytes (encStrs r) = recBody r := by simp [bytesHead, encStrs, strsBytes, recBody]
structure BytesAt (w wr : World) (bs : Nat) (r : Record) (k : Nat) (v : Value) : Prop where
  own : Owns wr 5 v (bytesHead r ++ strsBytes ((encStrs r).take k))
  new : ∀ j, v.ownBlock = some j → w.heap.size ≤ j ∧ j ≠ bs
  ext : Ext w wr
  strs : wr.heap[bs]? = some (.cells #[.string r.call.name, .string r.call.to_, .string r.call.text] 9)
def BytesRel (w wr : World) (bs : Nat) (r : Record) (v i : Value) : Prop := ∃ k : Nat, i = .int .i64 k ∧ k ≤ 3 ∧ BytesAt w wr bs r k v
theorem encStrs_get {r : Record} {k : Nat} (hk : k < 3) : ∃ s, (encStrs r)[k]? = some s ∧ (#[Value.string r.call.name, .string r.call.to_, .string r.call.text])[k]? = some (.string s) := by
  obtain rfl | rfl | rfl : k = 0 ∨ k = 1 ∨ k = 2 := by omega
  · exact ⟨_, rfl, rfl⟩
  · exact ⟨_, rfl, rfl⟩
  · exact ⟨_, rfl, rfl⟩

set_option maxHeartbeats 2000000 in
set_option maxRecDepth 100000 in
theorem ref_bytesOf (w : World) (r : Record) (hok : RecOk r) :
    Calls Try.prog 64 #[.agg r.cells] w (NewList w 5 (recBytes r)) := by
  obtain ⟨c1, c2⟩ := hok.client
  obtain ⟨n1, n2⟩ := hok.no
  obtain ⟨k1, k2⟩ := hok.kind
  obtain ⟨a1, a2⟩ := hok.code
  obtain ⟨s1, s2, s3⟩ := recCode_size hok
  have HOK := Lib.hid hok
  have HSZ := Lib.hid (show ∀ s ∈ encStrs r, s.size ≤ 100 from fun s hs => by unfold encStrs at hs; simp at hs; rcases hs with rfl | rfl | rfl <;> omega)
  clear hok
  go_enter Try.func64, Try.ntmps64
  go_wp2
  have hz1 : (((w.alloc (.cells r.cells 49)).alloc (.cells #[.int .u8 r.client, .int .u8 r.no, .int .u8 r.call.kind, .int .u8 r.answer.code] 5)).alloc (.cells #[.string r.call.name, .string r.call.to_, .string r.call.text] 9)).heap[w.heap.size + 1]? = some (.cells #[.int .u8 r.client, .int .u8 r.no, .int .u8 r.call.kind, .int .u8 r.answer.code] 5) := by
    rw [heap_alloc_past _ _ _ (by simp), heap_alloc_at _ _ _ (by simp)]
  have hz3 : (((w.alloc (.cells r.cells 49)).alloc (.cells #[.int .u8 r.client, .int .u8 r.no, .int .u8 r.call.kind, .int .u8 r.answer.code] 5)).alloc (.cells #[.string r.call.name, .string r.call.to_, .string r.call.text] 9)).heap[w.heap.size + 1 + 1]? = some (.cells #[.string r.call.name, .string r.call.to_, .string r.call.text] 9) := by
    rw [heap_alloc_at _ _ _ (by simp)]
  have hrow : Owns (((w.alloc (.cells r.cells 49)).alloc (.cells #[.int .u8 r.client, .int .u8 r.no, .int .u8 r.call.kind, .int .u8 r.answer.code] 5)).alloc (.cells #[.string r.call.name, .string r.call.to_, .string r.call.text] 9)) 5 (.slice (some ⟨w.heap.size + 1, 0, none⟩) 4 4) (bytesHead r) := by
    refine ⟨by rw [length_flat], .inr ⟨w.heap.size + 1, 4, _, rfl, Nat.zero_le _, hz1, Nat.le_refl _, by simp [maxLen], rfl, ?_⟩⟩
    rw [flat_bytes]
    unfold bytesHead
    simp only [List.map_cons, List.map_nil, toByte_toNat c1 (by omega : r.client < 256), toByte_toNat (show 0 ≤ r.no by omega) (by omega : r.no < 256), toByte_toNat (show 0 ≤ r.call.kind by omega) (by omega : r.call.kind < 256), toByte_toNat a1 (by omega : r.answer.code < 256)]
    rfl
  have B0 := Lib.hid (show BytesAt w (((w.alloc (.cells r.cells 49)).alloc (.cells #[.int .u8 r.client, .int .u8 r.no, .int .u8 r.call.kind, .int .u8 r.answer.code] 5)).alloc (.cells #[.string r.call.name, .string r.call.to_, .string r.call.text] 9)) (w.heap.size + 1 + 1) r 0 (.slice (some ⟨w.heap.size + 1, 0, none⟩) 4 4) from
    ⟨by simpa [strsBytes] using hrow, fun j hj => by simp [Value.ownBlock] at hj; omega, (((Touch.refl _ w).alloc _).alloc _).alloc _, hz3⟩)
  clear hz1 hz3 hrow
  generalize ((w.alloc (.cells r.cells 49)).alloc (.cells #[.int .u8 r.client, .int .u8 r.no, .int .u8 r.call.kind, .int .u8 r.answer.code] 5)).alloc (.cells #[.string r.call.name, .string r.call.to_, .string r.call.text] 9) = w1 at B0 ⊢
  have hlw : w.heap.size < w.heap.size + 1 + 1 := by omega
  generalize w.heap.size + 1 + 1 = bs at B0 hlw ⊢
  go_loopw [3, 5] (fun v i wr => BytesRel w wr bs r v i) (fun _ i _ => 3 - (intOf i).toNat)
  case atStart => exact ⟨0, rfl, by omega, B0.out⟩
  case round =>
    obtain ⟨k, rfl, hk, B⟩ := hrel
    clear B0
    have hM : (bytesHead r ++ strsBytes ((encStrs r).take k)).length ≤ 3000 := by
      have h1 := length_strsBytes (L := (encStrs r).take k) fun x hx => HSZ.out x (List.take_subset _ _ hx)
      have : ((encStrs r).take k).length ≤ 3 := by simp; omega
      rw [List.length_append]; simp only [bytesHead, List.length_cons, List.length_nil]; omega
    obtain ⟨hbo, hbn, hbe, hbs⟩ := B
    obtain ⟨A0, c0, rfl, hc0, hcm0, hrd0⟩ := hbo.form
    have HOW := Lib.hid hbo
    have HNW := Lib.hid hbn
    have HEX := Lib.hid hbe
    have HST := Lib.hid hbs
    by_cases hlt : k < 3
    · have hki : (k : Int) < 3 := by omega
      obtain ⟨s, hs, hs'⟩ := encStrs_get (r := r) hlt
      have hss : s.size ≤ 100 := HSZ.out s (List.mem_of_getElem? hs)
      have hat0 : wr.cell? ⟨bs, k, none⟩ = some (.string s) := by rw [cell_of hbs]; exact hs'
      have HT := Lib.hid (strsBytes_take hs)
      have hss0 : (0 : Int) ≤ s.size := by omega
      have hss1 : (s.size : Int) ≤ 100 := by omega
      have hN : (bytesHead r ++ strsBytes ((encStrs r).take k)).length + 1 + s.size = (bytesHead r ++ strsBytes ((encStrs r).take (k + 1))).length := by rw [HT.out]; simp [length_toList']; omega
      have HN := Lib.hid hN
      have HE := Lib.hid (show (bytesHead r ++ strsBytes ((encStrs r).take k) ++ [toByte (s.size : Int)]) ++ s.toList = bytesHead r ++ strsBytes ((encStrs r).take (k + 1)) by rw [HT.out]; simp)
      have hb8 : ((toByte (s.size : Int)).toNat : Int) = s.size := toByte_toNat hss0 (by omega)
      have HB8 := Lib.hid hb8
      have hrd : Reads (wr.alloc (.cells #[.int .u8 (s.size : Int)] 5)) (wr.heap.size + 1) (some ⟨wr.heap.size, 0, none⟩) [toByte (s.size : Int)] :=
        reads_block (x := toByte (s.size : Int)) (t := 5) (fr := (0, 0)) (by rw [heap_alloc_new]; show _ = some (Obj.cells #[.int .u8 ((toByte (s.size : Int)).toNat : Int)] _ _); rw [HB8.out]) _ (by omega)
      have HRD := Lib.hid hrd
      have HS' := Lib.hid hs'
      have hsl := length_toList' s
      have HSL := Lib.hid hsl
      clear hbo hbn hbe hbs hs hs' hN hb8 hrd hrd0 hcm0 hsl
      generalize bytesHead r ++ strsBytes ((encStrs r).take k) = M at *
      go_wp2_with (first
        | (at_builtin; refine wpList_append_own' (by rfl) (.tmp 35) (.tmp 42) 39 (by rfl) elemByte Try.underlying39 (v := .slice A0 M.length c0) (l := M) (by rfl) (HOW.out.ext ((Touch.refl _ wr).alloc _)) [toByte (s.size : Int)] (by rfl) (M.length + 1) (by rfl) (by rfl) HRD.out (by simp; omega) ?_
           intro A1 c1 w1 hown1 hgrow1 hat1
           have hb1 : w1.heap[bs]? = some (.cells #[.string r.call.name, .string r.call.to_, .string r.call.text] 9) := World.grownBy.blk hgrow1 ((Touch.alloc (Touch.refl (fun _ => False) wr) (.cells #[.int .u8 (s.size : Int)] 5)).blk HST.out id) (fun e => (HNW.out bs e).2 rfl)
           have hcc1 : w1.cell? ⟨bs, k, none⟩ = some (.string s) := by rw [cell_of hb1]; exact HS'.out
           obtain ⟨c2, w2, hcv, hx2, hrd2, hz2⟩ := conv_bytes (P := Try.prog) (e := 5) Try.underlying9 Try.underlying39 Try.underlying5 w1 s
           have HX2 := Lib.hid hx2
           have HR2 := Lib.hid hrd2
           have HZ2 := Lib.hid hz2
           have HO1 := Lib.hid hown1
           have HG1 := Lib.hid hgrow1
           have HA1 := Lib.hid hat1
           have HB1 := Lib.hid hb1
           clear hown1 hgrow1 hat1 hx2 hrd2 hz2 hb1)
        | (at_builtin; refine wpList_append_own' (by rfl) (.tmp 44) (.tmp 49) 39 (by rfl) elemByte Try.underlying39 (v := .slice A1 (M.length + 1) c1) (l := M ++ [toByte (s.size : Int)]) (by rfl) (HO1.out.ext HX2.out) s.toList (by rw [HSL.out]) (M.length + 1 + s.size) (by simp) (by rfl) HR2.out (by simp [HSL.out]; omega) ?_
           intro A2 c3 w3 hown2 hgrow2 hat2
           have HO2 := Lib.hid hown2
           have HG2 := Lib.hid hgrow2
           have HA2 := Lib.hid hat2
           clear hown2 hgrow2 hat2))
      have hx1 : Ext w (wr.alloc (.cells #[.int .u8 (s.size : Int)] 5)) := HEX.out.alloc _
      have hbslt : bs < wr.heap.size := (Array.getElem?_eq_some_iff.1 HST.out).1
      have hsz1 := HG1.out.size
      have hsz2 := HX2.out.size
      have hwr := HEX.out.size
      have hn1 : ∀ j, (Value.slice A1 (M.length + 1) c1).ownBlock = some j → w.heap.size ≤ j ∧ j ≠ bs := fun j hj => by
        rcases HA1.out with e | e
        · exact HNW.out j (by rw [← e]; exact hj)
        · rw [e] at hj; injection hj with hj; simp at hj hsz1; omega
      have hn2 : ∀ j, (Value.slice A2 (M.length + 1 + s.size) c3).ownBlock = some j → w.heap.size ≤ j ∧ j ≠ bs := fun j hj => by
        rcases HA2.out with e | e
        · exact hn1 j (by rw [← e]; exact hj)
        · rw [e] at hj; injection hj with hj; simp at hsz1; omega
      have hx3 : Ext w w3 := ((hx1.grown HG1.out (fun j hj => .inr (HNW.out j hj).1)).then HX2.out fun _ h => h.elim).grown HG2.out (fun j hj => .inr (hn1 j hj).1)
      have hs3 := World.grownBy.blk HG2.out (HX2.out.blk HB1.out id) (fun e => (hn1 bs e).2 rfl)
      have hown3 : Owns w3 5 (.slice A2 (M.length + 1 + s.size) c3) (bytesHead r ++ strsBytes ((encStrs r).take (k + 1))) := by rw [← HE.out]; exact HO2.out
      have HFIN := Lib.hid (show BytesAt w w3 bs r (k + 1) (.slice A2 (M.length + 1 + s.size) c3) from ⟨hown3, hn2, hx3, hs3⟩)
      clear hx1 hbslt hsz1 hsz2 hwr hn1 hn2 hx3 hs3 hown3
      go_roundw
      case rel => exact ⟨k + 1, by go_num, by omega, HFIN.out⟩
      case measure => simp [intOf]; omega
    · have hk3 : k = 3 := by omega
      subst hk3
      have e : (encStrs r).take 3 = encStrs r := by simp [encStrs]
      rw [e, bytes_body] at hbo hM hc0 HOW HNW ⊢
      have hbd := recBytes_bounds HOK.out
      have hl1 : (recBody r).length + 1 = (recBytes r).length := by simp [recBytes]
      have hL := Lib.hid hl1
      have hi1 : (recBody r).length ≤ 25 := by omega
      have hb8 : ((toByte (((recBody r).length : Int) + 1)).toNat : Int) = ((recBody r).length : Int) + 1 := toByte_toNat (by omega) (by omega)
      have hov : Owns (wr.alloc (.cells #[.int .u8 (((recBody r).length : Int) + 1)] 5)) 5 (.slice (some ⟨wr.heap.size, 0, none⟩) 1 1) [toByte (((recBody r).length : Int) + 1)] :=
        own_one (x := toByte (((recBody r).length : Int) + 1)) (by rw [heap_alloc_new]; show _ = some (Obj.cells #[.int .u8 ((toByte (((recBody r).length : Int) + 1)).toNat : Int)] _ _); rw [hb8])
      have HOV := Lib.hid hov
      have HRB := Lib.hid ((Owns.ext hbo (Touch.alloc (Touch.refl (fun _ => False) wr) (.cells #[.int .u8 (((recBody r).length : Int) + 1)] 5))).form)
      have HRD := Lib.hid (Owns.reads (Owns.ext hbo (Touch.alloc (Touch.refl (fun _ => False) wr) (.cells #[.int .u8 (((recBody r).length : Int) + 1)] 5))))
      clear hbo hbn hbe hbs hrd0 hcm0 HST e hb8 hov hbd hl1
      go_wp2_with (at_builtin; refine wpList_append_own' (by rfl) (.tmp 55) (.tmp 56) 39 (by rfl) elemByte Try.underlying39 (v := .slice (some ⟨wr.heap.size, 0, none⟩) 1 1) (l := [toByte (((recBody r).length : Int) + 1)]) (by rfl) HOV.out (recBody r) (by rfl) (1 + (recBody r).length) (by rfl) (by rfl) HRD.out (by simp; omega) ?_
                   intro A1 c1 w1 hown1 hgrow1 hat1)
      go_ret
      have e2 : 1 + (recBody r).length = (recBytes r).length := by have := hL.out; omega
      rw [e2] at hown1 hat1
      refine ⟨A1, c1, by rw [e2]; rfl, ?_, ?_, fun k hk => ?_⟩
      · exact hown1
      · exact (HEX.out.alloc _).grown hgrow1 fun k hk => by simp [Value.ownBlock] at hk; have := HEX.out.size; exact .inr (by omega)
      · have := HEX.out.size
        rcases hat1 with e | e
        · rw [e] at hk; simp [Value.ownBlock] at hk; omega
        · rw [e] at hk; injection hk with hk; simp at hk; omega
end Go.Proofs.Ytalfbhhldfffkab
