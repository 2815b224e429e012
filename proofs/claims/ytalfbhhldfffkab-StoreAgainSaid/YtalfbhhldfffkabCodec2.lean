/- Codec2: the walks of the writer's text, codec.Encode and the reference's BytesOf. -/
import Derived.Test.YtalfbhhldfffkabCodec
import Derived.Test.YtalfbhhldfffkabRep
import Derived.Test.YtalfbhhldfffkabMem2
namespace Go.Proofs.Ytalfbhhldfffkab
open Go.RowKit

theorem Moved.after {X : Type} {R : Rep X} {w w' w'' : World} {F F' : Nat → Prop} {x' : X} (ht : Touch F w w') (hf : Fresh w F F') (h : Moved R w' F' x' w'') : Moved R w F x' w'' := by
  obtain ⟨F'', g1, g2, g3⟩ := h
  refine ⟨F'', g1, ht.then g2 fun k hk => hf k hk, fun k hk => ?_⟩
  rcases g3 k hk with h | h
  · exact hf k h
  · exact .inr (Nat.le_trans ht.size h)
/-- append of a string's bytes onto owned bytes, for the walk -/
theorem wpList_append_text' {P : Program} {ops : Array Oper} {rest : List Oper} {o : Oper} {a : Act} {w : World} {Q : Exit → Act → World → Prop} (hgd : o.guard = none) (s x : Operand) (t u : TypeId)
    (ho : o.op = .call { callee := .builtin .append, args := #[s, x], argTypes := #[t, u] }) {e : TypeId} (hE : (P.info? e).map (fun i => (i.zero, i.size, i.bytes)) = some (some (.int .u8 0), 1, 1)) (ht : P.underlying t = some (.slice e)) (hu : P.underlying u = some .string)
    {v : Value} {l : List UInt8} (hs : a.eval s = v) (hown : Owns w e v l) (str : ByteArray) (N : Nat) (hN : l.length + str.size = N) (hx : a.eval x = .string str)
    (hsz : l.length + str.size ≤ 140737488355328)
    (h : ∀ A' c' w', Owns w' e (.slice A' N c') (l ++ str.toList) → w.grownBy w' v.ownBlock → ((Value.slice A' N c').ownBlock = v.ownBlock ∨ (Value.slice A' N c').ownBlock = some w.heap.size) →
      wpList P ops Q rest (a.put o.dst (.slice A' N c')) w') : wpList P ops Q (o :: rest) a w := by
  subst hN
  refine wpList_plain hgd fun K hK => ?_
  obtain ⟨A', c', w', hr, h2, h3, h4⟩ := run_append_text (P := P) hE t u o.type ht hu hown str hsz
  unfold Oper.wp execOp
  simp only [ho, resolve, invoke, builtin, Sem.run_bind, Sem.run_pure, Result.andThen_ok, List.map_toArray, List.map_cons, List.map_nil, hs, hx, hr]
  exact hK _ _ (h A' c' w' h2 h3 h4)

theorem byteInfo : (Try.prog.info? 5).map (fun i => (i.zero, i.size, i.bytes)) = some (some (.int .u8 0), 1, 1) := by kernel_rfl

theorem Holds.grown2 {α : Type} [Lies α] {w wx w1 w2 : World} {g : Nat} {T E : TypeId} {v v1 : Value} {l : List α} (h : Holds w g T E v l) (hx : Ext w wx) (hne : E ≠ T)
    (hg1 : wx.grownBy w1 v.ownBlock) (ha1 : v1.ownBlock = v.ownBlock ∨ v1.ownBlock = some wx.heap.size) (hg2 : w1.grownBy w2 v1.ownBlock) : w2.heap[g]? = some (.cells #[v] T (0, 0)) := by
  have hlt := h.lt
  have hs1 := hx.size
  have hg0 : v.ownBlock ≠ some g := h.own.elem h.cell hne
  have hgv1 : v1.ownBlock ≠ some g := by
    rcases ha1 with e | e
    · rw [e]; exact hg0
    · rw [e]; intro e; injection e with e; omega
  exact World.grownBy.blk hg2 (World.grownBy.blk hg1 ((hx.block g hlt id).trans h.cell) hg0) hgv1
/-- behind two appends and a store -/
theorem Holds.appended2 {α : Type} [Lies α] {w wx w1 w2 : World} {F : Nat → Prop} {g : Nat} {T E : TypeId} {v v1 v2 : Value} {l l2 : List α} (h : Holds w g T E v l) (hF : ∀ k, F k ↔ foot g v k) (hx : Ext w wx) (hne : E ≠ T)
    (hg1 : wx.grownBy w1 v.ownBlock) (ha1 : v1.ownBlock = v.ownBlock ∨ v1.ownBlock = some wx.heap.size) (hg2 : w1.grownBy w2 v1.ownBlock) (ha2 : v2.ownBlock = v1.ownBlock ∨ v2.ownBlock = some w1.heap.size) (ho : Owns w2 E v2 l2) :
    Moved (repHolds g T E) w F l2 (w2.setCell ⟨g, 0, none⟩ v2) := by
  have hlt := h.lt
  have hs1 := hx.size
  have hs2 := hg1.size
  have hg0 : v.ownBlock ≠ some g := h.own.elem h.cell hne
  have hgv1 : v1.ownBlock ≠ some g := by
    rcases ha1 with e | e
    · rw [e]; exact hg0
    · rw [e]; intro e; injection e with e; omega
  have hgv2 : v2.ownBlock ≠ some g := by
    rcases ha2 with e | e
    · rw [e]; exact hgv1
    · rw [e]; intro e; injection e with e; omega
  have hc1 := World.grownBy.blk hg1 ((hx.block g hlt id).trans h.cell) hg0
  have hc2 := World.grownBy.blk hg2 hc1 hgv1
  have hnew1 : ∀ k, v1.ownBlock = some k → F k ∨ w.heap.size ≤ k := fun k hk => by
    rcases ha1 with e | e
    · exact .inl ((hF k).2 (.inr (by rw [← e]; exact hk)))
    · rw [e] at hk; injection hk with hk; exact .inr (by omega)
  have hnew2 : ∀ k, v2.ownBlock = some k → F k ∨ w.heap.size ≤ k := fun k hk => by
    rcases ha2 with e | e
    · exact hnew1 k (by rw [← e]; exact hk)
    · rw [e] at hk; injection hk with hk; exact .inr (by omega)
  refine ⟨foot g v2, ⟨v2, fun k => Iff.rfl, ⟨by rw [heap_setCell_same w2 g 0 #[v] T v2 hc2]; rfl, ho.setCell hgv2 v2⟩⟩, ?_, fun k hk => ?_⟩
  · exact ((((hx.mono (S := F) fun k hk => hk.elim).grown hg1 fun k hk => .inl ((hF k).2 (.inr hk)))).grown hg2 hnew1).setCell (.inl ((hF g).2 (.inl rfl))) _
  · rcases hk with rfl | hk
    · exact .inl ((hF _).2 (.inl rfl))
    · exact hnew2 k hk
def strsBytes (L : List ByteArray) : List UInt8 := L.flatMap strBytes
theorem strsBytes_take {L : List ByteArray} {k : Nat} {s : ByteArray} (h : L[k]? = some s) : strsBytes (L.take (k + 1)) = strsBytes (L.take k) ++ toByte (s.size : Int) :: s.toList := by
  unfold strsBytes
  rw [List.take_add_one, h]
  simp [strBytes]
theorem length_strsBytes {L : List ByteArray} (h : ∀ s ∈ L, s.size ≤ 100) : (strsBytes L).length ≤ L.length * 101 := by
  induction L with
  | nil => simp [strsBytes]
  | cons s L ih =>
    have h1 := ih fun x hx => h x (List.mem_cons_of_mem _ hx)
    have h2 := h s List.mem_cons_self
    unfold strsBytes at h1 ⊢
    rw [List.flatMap_cons, List.length_append, length_strBytes, List.length_cons]
    omega
def WriteRel (w : World) (F : Nat → Prop) (g : Nat) (l : List UInt8) (L : List ByteArray) (i : Value) (wr : World) : Prop :=
  ∃ k : Nat, i = .int .i64 k ∧ k ≤ L.length ∧ Moved (repHolds g 172 5) w F (l ++ strsBytes (L.take k)) wr

set_option maxHeartbeats 2000000 in
set_option maxRecDepth 100000 in
theorem writer_text (w : World) (F : Nat → Prop) (g : Nat) (l : List UInt8) (b : Nat) (c : Nat) (L : List ByteArray) (h : (repHolds g 172 5).on w F l) (hb : b < w.heap.size) (hbF : ¬ F b) (hr : Reads w w.heap.size (some ⟨b, 0, none⟩) L)
    (hL : ∀ s ∈ L, s.size ≤ 100) (hl : l.length ≤ 1000) (hn : L.length ≤ 10) :
    Calls Try.prog 117 #[.pointer (some ⟨g, 0, none⟩), .slice (some ⟨b, 0, none⟩) L.length c] w fun e w' => e = .returned (.tuple #[]) ∧ Moved (repHolds g 172 5) w F (l ++ strsBytes L) w' := by
  have H := Lib.hid h
  have HR := Lib.hid hr
  have HL := Lib.hid hL
  have HBF := Lib.hid hbF
  clear h hr hL hbF
  go_enter Try.func117, Try.ntmps117
  go_wp2
  go_loopw [8] (fun i wr => WriteRel w F g l L i wr) (fun i _ => L.length - (intOf i).toNat)
  case atStart => exact ⟨0, rfl, Nat.zero_le _, by simpa [strsBytes] using Rep.moved H.out (Touch.refl _ _)⟩
  case round =>
    obtain ⟨k, rfl, hk, F1, ⟨v, hF1, hh⟩, ht, hfr⟩ := hrel
    by_cases hlt : k < L.length
    · obtain ⟨s, hs⟩ : ∃ s, L[k]? = some s := ⟨L[k], by simp [hlt]⟩
      obtain ⟨ad, had, hadb, hat⟩ := HR.out k s hs
      cases had
      have hat0 : wr.cell? ⟨b, k, none⟩ = some (.string s) := by
        have h1 := hat.of_same (w' := wr) (by rw [show ((⟨b, 0, none⟩ : Addr).add (k * Lies.size ByteArray)).block = b by unfold Addr.add; split <;> rfl]; exact ht.block b hb HBF.out)
        have := h1 0 (.string s) rfl
        rwa [addr_add_add, show k * Lies.size ByteArray + 0 = k from Nat.mul_one k, show (⟨b, 0, none⟩ : Addr).add k = ⟨b, k, none⟩ by unfold Addr.add; split <;> simp_all] at this
      obtain ⟨A0, c0, rfl, hc0, hcm0, _⟩ := hh.own.form
      have hg0 := cell_of hh.cell 0
      have hss : s.size ≤ 100 := HL.out s (List.mem_of_getElem? hs)
      have hM : (l ++ strsBytes (L.take k)).length ≤ 3000 := by
        have h1 := length_strsBytes (L := L.take k) fun x hx => HL.out x (List.take_subset _ _ hx)
        have : (L.take k).length ≤ 10 := by simp; omega
        rw [List.length_append]; omega
      have HT := Lib.hid (strsBytes_take hs)
      have HM := Lib.hid ht
      have HFR := Lib.hid hfr
      have HF1 := Lib.hid hF1
      have HH := Lib.hid hh
      have hlt0 := hh.lt
      have hss0 : (0 : Int) ≤ s.size := by omega
      have hss1 : (s.size : Int) ≤ 100 := by omega
      have hN : ((l ++ strsBytes (L.take k)).length + 1) + s.size = (l ++ strsBytes (L.take (k + 1))).length := by rw [HT.out]; simp [length_toList']; omega
      have HN := Lib.hid hN
      have HE := Lib.hid (show (l ++ strsBytes (L.take k) ++ [toByte (s.size : Int)]) ++ s.toList = l ++ strsBytes (L.take (k + 1)) by rw [HT.out]; simp)
      generalize l ++ strsBytes (L.take k) = M at *
      clear hs hat ht hfr hF1 hh hss hN
      have hb8 : ((toByte (s.size : Int)).toNat : Int) = s.size := toByte_toNat hss0 (by omega)
      have HB8 := Lib.hid hb8
      clear hb8
      have hrd : Reads (wr.alloc (.cells #[.int .u8 (s.size : Int)] 5)) (wr.heap.size + 1) (some ⟨wr.heap.size, 0, none⟩) [toByte (s.size : Int)] :=
        reads_block (x := toByte (s.size : Int)) (t := 5) (fr := (0, 0)) (by rw [heap_alloc_new]; show _ = some (Obj.cells #[.int .u8 ((toByte (s.size : Int)).toNat : Int)] _ _); rw [HB8.out]) _ (by omega)
      have HRD := Lib.hid hrd
      clear hrd
      go_wp2_with (first
        | (at_builtin; refine wpList_append_own' (by rfl) (.tmp 15) (.tmp 19) 172 (by rfl) elemByte Try.underlying172 (v := .slice A0 M.length c0) (l := M) (by rfl) ((HH.out.ext ((Touch.refl _ wr).alloc _)).own) [toByte (s.size : Int)] (by rfl) (M.length + 1) (by rfl) (by rfl) HRD.out (by simp; omega) ?_
           intro A1 c1 w1 hown1 hgrow1 hat1
           have HO1 := Lib.hid hown1
           have HG1 := Lib.hid hgrow1
           have HA1 := Lib.hid hat1
           clear hown1 hgrow1 hat1)
        | (at_builtin; refine wpList_append_text' (by rfl) (.tmp 20) (.tmp 21) 172 9 (by rfl) byteInfo Try.underlying172 Try.underlying9 (v := .slice A1 (M.length + 1) c1) (l := M ++ [toByte (s.size : Int)]) (by rfl) HO1.out s (M.length + 1 + s.size) (by simp) (by rfl) (by simp; omega) ?_
           intro A2 c2 w2 hown2 hgrow2 hat2
           have hb2 : w2.heap[g]? = some (.cells #[.slice A0 M.length c0] 172 (0, 0)) := HH.out.grown2 ((Touch.refl _ wr).alloc _) (by decide) HG1.out HA1.out hgrow2
           have hg2 := cell_of hb2 0
           have hf2 := frozen_of hb2 0
           have HO2 := Lib.hid hown2
           have HG2 := Lib.hid hgrow2
           have HA2 := Lib.hid hat2
           clear hown2 hgrow2 hat2))
      have hmv := Holds.appended2 HH.out HF1.out ((Touch.refl _ wr).alloc (.cells #[.int .u8 (s.size : Int)] 5)) (by decide) HG1.out HA1.out HG2.out HA2.out HO2.out
      rw [HE.out] at hmv
      have HMV := Lib.hid hmv
      clear hmv
      go_roundw
      case rel => exact ⟨k + 1, by go_num, by omega, Moved.after HM.out HFR.out HMV.out⟩
      case measure => simp [intOf]; omega
    · have hk' : k = L.length := by omega
      subst hk'
      go_wp2
      refine bodyPost_end (results_none rfl _ _ _) rfl ⟨rfl, ?_⟩
      have e : L.take L.length = L := List.take_length
      rw [e] at hh
      exact ⟨F1, ⟨v, hF1, hh⟩, ht, hfr⟩
/-- a new list of the call's own, and a code -/
def NewListC {α : Type} [Lies α] (w : World) (E : TypeId) (l : List α) (n : Int) (e : Ending) (w' : World) : Prop :=
  ∃ A c, e = .returned (.tuple #[.slice A l.length c, .int .i64 n]) ∧ Owns w' E (.slice A l.length c) l ∧ Ext w w' ∧ ∀ k, (Value.slice A l.length c).ownBlock = some k → w.heap.size ≤ k
def encBytes (r : Record) : List UInt8 := if recCode r = 0 then recBytes r else []
theorem Owns.set0 {w : World} {e : TypeId} {g n c : Nat} {x : UInt8} {l : List UInt8} (h : Owns w e (.slice (some ⟨g, 0, none⟩) n c) (x :: l)) (y : UInt8) : Owns (w.setCell ⟨g, 0, none⟩ (.int .u8 y.toNat)) e (.slice (some ⟨g, 0, none⟩) n c) (y :: l) := by
  have h1 := h.1
  rcases h.2 with ⟨hv, _⟩ | ⟨g', cap, cur, hv, hb, hg, hn, hc, hs, ht⟩
  · cases hv
  · injection hv with e1 e2 e3
    injection e1 with e1
    injection e1 with e1
    subst e1
    refine ⟨h1, .inr ⟨g, cap, cur.setIfInBounds 0 (.int .u8 y.toNat), by rw [e2, e3]; rfl, hb, heap_setCell_same w g 0 cur e _ hg, hn, hc, by simpa using hs, ?_⟩⟩
    rw [flat_bytes] at ht ⊢
    obtain ⟨xs⟩ := cur
    simp only [List.setIfInBounds_toArray] at ht ⊢
    cases xs with
    | nil => simp at ht
    | cons u xs =>
      simp only [List.set_cons_zero]
      rw [show (x :: l).length * Lies.size UInt8 = l.length + 1 from Nat.mul_one _] at ht
      rw [show (y :: l).length * Lies.size UInt8 = l.length + 1 from Nat.mul_one _]
      rw [List.take_succ_cons, List.map_cons] at ht ⊢
      injection ht with _ ht
      rw [ht]
theorem Owns.at0 {w : World} {e : TypeId} {g n c : Nat} {x : UInt8} {l : List UInt8} (h : Owns w e (.slice (some ⟨g, 0, none⟩) n c) (x :: l)) : w.cell? ⟨g, 0, none⟩ = some (.int .u8 x.toNat) ∧ ∃ cur, w.heap[g]? = some (.cells cur e (0, 0)) := by
  rcases h.2 with ⟨hv, _⟩ | ⟨g', cap, cur, hv, hb, hg, hn, hc, hs, ht⟩
  · cases hv
  · injection hv with e1 e2 e3
    injection e1 with e1
    injection e1 with e1
    subst e1
    refine ⟨?_, cur, hg⟩
    rw [cell_of hg]
    have := World.ownsRow.cells h (g := g) rfl 0 (.int .u8 x.toNat) (by rw [flat_bytes]; rfl)
    rwa [show (⟨g, 0, none⟩ : Addr).add 0 = ⟨g, 0, none⟩ from rfl, cell_of hg] at this

def encHead (r : Record) : List UInt8 := [0, toByte r.client, toByte r.no, toByte r.call.kind, toByte r.answer.code]
def encStrs (r : Record) : List ByteArray := [r.call.name, r.call.to_, r.call.text]
theorem enc_body (r : Record) : encHead r ++ strsBytes (encStrs r) = 0 :: recBody r := by simp [encHead, encStrs, strsBytes, recBody]
set_option maxHeartbeats 2000000 in
set_option maxRecDepth 100000 in
theorem codec_encode (w : World) (r : Record) (hs : StrCall r.call) :
    Calls Try.prog 112 #[.agg r.cells] w (NewListC w 5 (encBytes r) (recCode r)) := by
  have HS := Lib.hid hs
  clear hs
  by_cases h0 : recCode r = 0
  · have hok := recCode_ok h0
    have H0 := Lib.hid h0
    obtain ⟨c1, c2⟩ := hok.client
    obtain ⟨n1, n2⟩ := hok.no
    obtain ⟨k1, k2⟩ := hok.kind
    obtain ⟨a1, a2⟩ := hok.code
    obtain ⟨s1, s2, s3⟩ := recCode_size hok
    have HOK := Lib.hid hok
    clear hok h0
    go_enter Try.func112, Try.ntmps112
    go_wp2_with fail
    refine (codec_check _ r HS.out).mono ?_
    rintro e w1 ⟨rfl, he⟩
    rw [H0.out]
    have hb := he.blk (b := w.heap.size) (o := .cells r.cells 49 (0, 0)) (heap_alloc_new _ _) id
    have E1 := Lib.hid (show Ext w w1 from ((Touch.refl _ _).alloc _).then he fun _ h => h.elim)
    have hlw : w.heap.size < w1.heap.size := (Array.getElem?_eq_some_iff.1 hb).1
    have hcc := fun o => cell_of hb o
    go_wp2_with fail
    have X4 : Ext w (((w1.alloc (.cells #[.int .u8 0, .int .u8 r.client, .int .u8 r.no, .int .u8 r.call.kind, .int .u8 r.answer.code] 5)).alloc (.cells #[.slice (some ⟨w1.heap.size, 0, none⟩) 5 5] 172)).alloc (.cells #[.string r.call.name, .string r.call.to_, .string r.call.text] 9)) := ((E1.out.alloc _).alloc _).alloc _
    have hz1 : (((w1.alloc (.cells #[.int .u8 0, .int .u8 r.client, .int .u8 r.no, .int .u8 r.call.kind, .int .u8 r.answer.code] 5)).alloc (.cells #[.slice (some ⟨w1.heap.size, 0, none⟩) 5 5] 172)).alloc (.cells #[.string r.call.name, .string r.call.to_, .string r.call.text] 9)).heap[w1.heap.size]? = some (.cells #[.int .u8 0, .int .u8 r.client, .int .u8 r.no, .int .u8 r.call.kind, .int .u8 r.answer.code] 5) := by
      rw [heap_alloc_past _ _ _ (by simp; omega), heap_alloc_past _ _ _ (by simp), heap_alloc_new]
    have hz2 : (((w1.alloc (.cells #[.int .u8 0, .int .u8 r.client, .int .u8 r.no, .int .u8 r.call.kind, .int .u8 r.answer.code] 5)).alloc (.cells #[.slice (some ⟨w1.heap.size, 0, none⟩) 5 5] 172)).alloc (.cells #[.string r.call.name, .string r.call.to_, .string r.call.text] 9)).heap[w1.heap.size + 1]? = some (.cells #[.slice (some ⟨w1.heap.size, 0, none⟩) 5 5] 172) := by
      rw [heap_alloc_past _ _ _ (by simp), heap_alloc_at _ _ _ (by simp)]
    have hz3 : (((w1.alloc (.cells #[.int .u8 0, .int .u8 r.client, .int .u8 r.no, .int .u8 r.call.kind, .int .u8 r.answer.code] 5)).alloc (.cells #[.slice (some ⟨w1.heap.size, 0, none⟩) 5 5] 172)).alloc (.cells #[.string r.call.name, .string r.call.to_, .string r.call.text] 9)).heap[w1.heap.size + 1 + 1]? = some (.cells #[.string r.call.name, .string r.call.to_, .string r.call.text] 9) := by
      rw [heap_alloc_at _ _ _ (by simp)]
    have hwb : w.heap.size ≤ w1.heap.size := by omega
    generalize ((w1.alloc (.cells #[.int .u8 0, .int .u8 r.client, .int .u8 r.no, .int .u8 r.call.kind, .int .u8 r.answer.code] 5)).alloc (.cells #[.slice (some ⟨w1.heap.size, 0, none⟩) 5 5] 172)).alloc (.cells #[.string r.call.name, .string r.call.to_, .string r.call.text] 9) = w4 at X4 hz1 hz2 hz3 ⊢
    generalize w1.heap.size = b0 at hz1 hz2 hz3 hwb ⊢
    have X := Lib.hid X4
    clear X4 he hb hlw hcc
    have hrow : Owns w4 5 (.slice (some ⟨b0, 0, none⟩) 5 5) (encHead r) := by
      refine ⟨by rw [length_flat], .inr ⟨b0, 5, _, rfl, Nat.zero_le _, hz1, Nat.le_refl _, by simp [maxLen], rfl, ?_⟩⟩
      rw [flat_bytes]
      unfold encHead
      simp only [List.map_cons, List.map_nil, toByte_toNat c1 (by omega : r.client < 256), toByte_toNat (show 0 ≤ r.no by omega) (by omega : r.no < 256), toByte_toNat (show 0 ≤ r.call.kind by omega) (by omega : r.call.kind < 256), toByte_toNat a1 (by omega : r.answer.code < 256)]
      rfl
    have hhold : Holds w4 (b0 + 1) 172 5 (.slice (some ⟨b0, 0, none⟩) 5 5) (encHead r) := ⟨hz2, hrow⟩
    have hrd : Reads w4 w4.heap.size (some ⟨b0 + 1 + 1, 0, none⟩) (encStrs r) := reads_row hz3 (fun j v hj => by
      unfold encStrs at hj
      have e : flat [r.call.name, r.call.to_, r.call.text] = [.string r.call.name, .string r.call.to_, .string r.call.text] := rfl
      rw [e] at hj
      simpa using hj) (Array.getElem?_eq_some_iff.1 hz3).1
    refine (writer_text w4 (foot (b0 + 1) (.slice (some ⟨b0, 0, none⟩) 5 5)) (b0 + 1) (encHead r) (b0 + 1 + 1) 3 (encStrs r) ⟨_, fun _ => Iff.rfl, hhold⟩ (Array.getElem?_eq_some_iff.1 hz3).1 (fun hk => by rcases hk with hk | hk <;> simp [Value.ownBlock] at hk <;> omega) hrd
      (fun s hs => by unfold encStrs at hs; simp at hs; rcases hs with rfl | rfl | rfl <;> omega) (by simp [encHead]) (by simp [encStrs])).mono ?_
    rintro e w5 ⟨rfl, F5, ⟨v5, hF5, hh5⟩, ht5, hfr5⟩
    have hfoot : ∀ k, foot (b0 + 1) v5 k → w.heap.size ≤ k := fun k hk => by
      rcases hfr5 k ((hF5 k).2 hk) with h | h
      · rcases h with h | h
        · omega
        · simp [Value.ownBlock] at h; omega
      · have := X.out.size; omega
    have X5 := Lib.hid (show Ext w w5 from X.out.then ht5 fun k hk => .inr (by rcases hk with h | h; omega; simp [Value.ownBlock] at h; omega))
    rw [enc_body] at hh5
    clear hz1 hz2 hz3 hrow hhold hrd hF5 ht5 hfr5 X
    obtain ⟨A5, n5, rfl, hc5, hm5, _⟩ := hh5.own.form
    obtain ⟨gb, rfl⟩ : ∃ gb, A5 = some ⟨gb, 0, none⟩ := by
      rcases A5 with _ | ad
      · exact absurd (hh5.own.none_nil) (by simp)
      · obtain ⟨g, rfl⟩ := hh5.own.some_form; exact ⟨g, rfl⟩
    obtain ⟨hz0, cur, hcur⟩ := hh5.own.at0
    have hgg : gb ≠ b0 + 1 := fun e => hh5.own.elem hh5.cell (by decide) (by rw [e]; rfl)
    have hgn : (b0 + 1 = gb) = False := by simp; omega
    have hgc := cell_of hh5.cell 0
    have hfz := frozen_of hcur 0
    have hlen : (0 :: recBody r).length = (recBytes r).length := by simp [recBytes]
    have hbd := recBytes_bounds HOK.out
    have hbl := Lib.hid (show ((recBody r).length : Int) + 1 = ((recBytes r).length : Int) by simp [recBytes])
    rw [hlen] at hgc hc5 hh5 hfoot
    have HH5 := Lib.hid hh5
    have HFT := Lib.hid hfoot
    have hb1 : 1 ≤ (recBytes r).length := by omega
    have hb2 : (recBytes r).length ≤ 26 := hbd.2
    clear hh5 hlen hcur hfoot hbd hgg
    have HRB := Lib.hid (show recBytes r = toByte ((recBytes r).length : Int) :: recBody r by rw [← hbl.out]; rfl)
    generalize hnn : (recBytes r).length = n at *
    have HNN := Lib.hid hnn
    clear hnn
    have hgs : ∀ v, (w5.setCell ⟨gb, 0, none⟩ v).cell? ⟨b0 + 1, 0, none⟩ = some (.slice (some ⟨gb, 0, none⟩) n n5) := fun v => by
      rw [World.cell?_of_block (heap_setCell_other w5 ⟨gb, 0, none⟩ (b0 + 1) v (by simpa using hgn))]
      exact hgc
    go_wp2
    go_ret2
    have e : encBytes r = recBytes r := if_pos H0.out
    unfold NewListC
    rw [e, HNN.out, H0.out]
    refine ⟨some ⟨gb, 0, none⟩, n5, rfl, ?_, X5.out.setCell (.inr (HFT.out gb (.inr rfl))) _, fun k hk => HFT.out k (.inr hk)⟩
    have h1 := Owns.set0 HH5.out.own (toByte (n : Int))
    rw [toByte_toNat (by omega) (by omega)] at h1
    rw [HRB.out]
    exact h1
  · have hcb : (recCode r != 0) = true := bne_iff_ne.2 h0
    have HC := Lib.hid (show encBytes r = [] from if_neg h0)
    clear h0
    generalize hn : recCode r = n at hcb
    have HN := Lib.hid hn
    clear hn
    go_enter Try.func112, Try.ntmps112
    go_wp2_with fail
    refine (codec_check _ r HS.out).mono ?_
    rintro e w1 ⟨rfl, he⟩
    rw [HN.out]
    go_wp2
    go_ret2
    rw [HC.out]
    exact ⟨none, 0, rfl, Owns.nil _ _, ((Touch.refl _ _).alloc _).then he fun _ h => h.elim, fun k hk => by simp [Value.ownBlock] at hk⟩
end Go.Proofs.Ytalfbhhldfffkab
