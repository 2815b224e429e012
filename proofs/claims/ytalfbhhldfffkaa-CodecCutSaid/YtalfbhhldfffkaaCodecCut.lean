/- CodecCut: for every list of records and every number the law returns true and leaves its arguments as they were. No condition. -/
import Derived.Test.YtalfbhhldfffkaaCodecDoes
import Derived.Test.YtalfbhhldfffkaaPostP
namespace Go.Proofs.Ytalfbhhldfffkaa
open Go.RowKit
attribute [local go_sem ↓] sliced_cut

theorem Owns.apart {α β : Type} [Lies α] [Lies β] {w : World} {E1 E2 : TypeId} {v1 v2 : Value} {l1 : List α} {l2 : List β} (h1 : Owns w E1 v1 l1) (h2 : Owns w E2 v2 l2) (hne : E1 ≠ E2) : ∀ k, v2.ownBlock = some k → v1.ownBlock ≠ some k := fun k hk => by
  rcases h2.2 with ⟨rfl, _⟩ | ⟨g, cap, cur, rfl, _, hg, _⟩
  · simp [Value.ownBlock] at hk
  · have : g = k := by simpa [Value.ownBlock] using hk
    subst this
    exact h1.elem hg hne
theorem Owns.grownBeside {α β : Type} [Lies α] [Lies β] {w w' : World} {E1 E2 : TypeId} {v1 v2 : Value} {l1 : List α} {l2 : List β} (h2 : Owns w E2 v2 l2) (h1 : Owns w E1 v1 l1) (hne : E1 ≠ E2) (hg : w.grownBy w' v1.ownBlock) : Owns w' E2 v2 l2 :=
  h2.keep fun k hk => hg.block k (h2.lt k hk) fun e => h1.apart h2 hne k hk e.symm
/-- those that may be -/
def goodOf (l : List Record) : List Record := l.filter fun r => decide (recCode r = 0)
def endsOf (l : List Record) : List Int := (List.range l.length).map fun j => ((logBytes (l.take (j + 1))).length : Int)
theorem goodOf_ok (l : List Record) : ∀ r ∈ goodOf l, RecOk r := fun r hr => recCode_ok (by simpa using (List.mem_filter.1 hr).2)
theorem goodOf_len (l : List Record) : (goodOf l).length ≤ l.length := List.length_filter_le _ _
theorem goodOf_take {l : List Record} {k : Nat} {r : Record} (h : l[k]? = some r) : goodOf (l.take (k + 1)) = goodOf (l.take k) ++ if recCode r = 0 then [r] else [] := by
  unfold goodOf
  rw [List.take_add_one, h]
  simp only [Option.toList_some, List.filter_append]
  congr 1
  by_cases hc : recCode r = 0 <;> simp [hc]
theorem endsOf_snoc (l : List Record) (r : Record) : endsOf (l ++ [r]) = endsOf l ++ [((logBytes (l ++ [r])).length : Int)] := by
  unfold endsOf
  rw [List.length_append, List.length_singleton, List.range_succ, List.map_append]
  congr 1
  · apply List.map_congr_left
    intro j hj
    rw [List.take_append_of_le_length (by have := List.mem_range.1 hj; omega)]
  · rw [List.map_singleton, List.take_of_length_le (by simp)]
theorem endsOf_get {l : List Record} {j : Nat} (h : j < l.length) : (endsOf l)[j]? = some ((logBytes (l.take (j + 1))).length : Int) := by
  unfold endsOf
  rw [List.getElem?_map, List.getElem?_range h]
  rfl
theorem endsOf_len (l : List Record) : (endsOf l).length = l.length := by simp [endsOf]
theorem log_le {l : List Record} (h : ∀ r ∈ l, RecOk r) : (logBytes l).length ≤ l.length * 26 := by
  induction l with
  | nil => simp [logBytes]
  | cons r l ih =>
    have h1 := ih fun x hx => h x (List.mem_cons_of_mem _ hx)
    have h2 := (recBytes_bounds (h r List.mem_cons_self)).2
    rw [logBytes_cons, List.length_append, List.length_cons]
    omega
structure CutAt (W wr : World) (v1 v2 v3 : Value) (ins : List Record) : Prop where
  o1 : Owns wr 5 v1 (logBytes ins)
  o2 : Owns wr 63 v2 ins
  o3 : Owns wr 3 v3 (endsOf ins)
  n1 : ∀ k, v1.ownBlock = some k → W.heap.size ≤ k
  n2 : ∀ k, v2.ownBlock = some k → W.heap.size ≤ k
  n3 : ∀ k, v3.ownBlock = some k → W.heap.size ≤ k
  ext : Ext W wr
theorem CutAt.step {W w w' : World} {v1 v2 v3 : Value} {ins : List Record} (h : CutAt W w v1 v2 v3 ins) (hx : Ext w w') : CutAt W w' v1 v2 v3 ins :=
  ⟨h.o1.ext hx, h.o2.ext hx, h.o3.ext hx, h.n1, h.n2, h.n3, h.ext.then hx fun _ h => h.elim⟩
theorem new_at {W w : World} {v v' : Value} (h : ∀ k, v.ownBlock = some k → W.heap.size ≤ k) (hx : Ext W w) (hat : v'.ownBlock = v.ownBlock ∨ v'.ownBlock = some w.heap.size) : ∀ k, v'.ownBlock = some k → W.heap.size ≤ k := fun k hk => by
  rcases hat with e | e
  · exact h k (by rw [← e]; exact hk)
  · rw [e] at hk; injection hk with hk; have := hx.size; omega
def CutRel (W : World) (l : List Record) (v1 v2 v3 i : Value) (wr : World) : Prop := ∃ k : Nat, i = .int .i64 k ∧ k ≤ l.length ∧ CutAt W wr v1 v2 v3 (goodOf (l.take k))
structure StrRec (r : Record) : Prop where
  c : StrCall r.call
  a : r.answer.text.size ≤ 140737488351232

set_option maxHeartbeats 8000000 in
set_option maxRecDepth 100000 in
theorem codecCut (W : World) (A : Option Addr) (c : Nat) (l : List Record) (cut : Int) (hr : Reads W W.heap.size A l) (hs : ∀ x ∈ l, StrRec x) (hl : l.length ≤ 140737488351232) :
    Calls Try.prog 11 #[.slice A l.length c, .int .i64 cut] W fun e w' => e = .returned (.bool true) ∧ Ext W w' := by
  have HR := Lib.hid hr
  have HS := Lib.hid hs
  clear hr hs
  go_enter Try.func11, Try.ntmps11
  go_wp2_with fail
  refine (codec_begun W).mono ?_
  rintro e w1 ⟨rfl, hx1⟩
  have X1 := Lib.hid hx1
  clear hx1
  by_cases hl1 : 100 < l.length
  · have hl1' : (100 : Int) < l.length := by omega
    go_wp2
    go_ret
    exact ⟨rfl, X1.out⟩
  have hl1' : ¬ (100 : Int) < l.length := by omega
  have HL := Lib.hid hl1
  clear hl1 hl
  go_wp2_with fail
  go_loopw [5, 6, 7, 8] (fun v1 v2 v3 i wr => CutRel W l v1 v2 v3 i wr) (fun _ _ _ i _ => l.length - (intOf i).toNat)
  case atStart => exact ⟨0, rfl, Nat.zero_le _, Owns.nil _ _, Owns.nil _ _, Owns.nil _ _, fun k hk => by simp [Value.ownBlock] at hk, fun k hk => by simp [Value.ownBlock] at hk, fun k hk => by simp [Value.ownBlock] at hk, X1.out⟩
  case round =>
    obtain ⟨k, rfl, hk, hC⟩ := hrel
    have C := Lib.hid hC
    obtain ⟨A1, c1, rfl, hc1, hm1, _⟩ := hC.o1.form
    obtain ⟨A2, c2, rfl, hc2, hm2, _⟩ := hC.o2.form
    obtain ⟨A3, c3, rfl, hc3, hm3, _⟩ := hC.o3.form
    have hk100 : k ≤ 100 := by have := HL.out; omega
    have hi1 : (goodOf (l.take k)).length ≤ 100 := by have := goodOf_len (l.take k); rw [List.length_take] at this; omega
    have hi2 : (logBytes (goodOf (l.take k))).length ≤ 2600 := by have := log_le (goodOf_ok (l.take k)); omega
    have hi3 := endsOf_len (goodOf (l.take k))
    by_cases hlt : k < l.length
    · obtain ⟨r, hr⟩ : ∃ r, l[k]? = some r := ⟨l[k], by simp [hlt]⟩
      obtain ⟨ad, rfl, had, hat⟩ := HR.out k r hr
      have hadk : (ad.add (k * 8)).block = ad.block := by unfold Addr.add; split <;> rfl
      have HLV := Lib.hid (show ∀ w', Ext W w' → LV Try.prog 63 (ad.add (k * 8)) w' = .ok (.agg r.cells) w' from fun w' hw' => LV_Record (hat.of_same (hw'.block _ (by show (ad.add (k * 8)).block < _; rw [hadk]; exact had) id)))
      have HSR := Lib.hid (HS.out r (List.mem_of_getElem? hr))
      have HG := Lib.hid (goodOf_take hr)
      generalize hins' : goodOf (l.take (k + 1)) = ins' at HG
      have HI' := Lib.hid hins'
      generalize goodOf (l.take k) = ins at C HG hi1 hi2 hi3 hc1 hc2 hc3 ⊢
      have HI3 := Lib.hid hi3
      have hlv := HLV.out _ C.out.ext
      clear hr hat hC had hadk hm1 hm2 hm3 hins' hi3
      go_wp2_with fail
      refine (law_greatRecord wr r HSR.out.c HSR.out.a).mono ?_
      rintro e w2 ⟨rfl, hx2⟩
      have C2 := Lib.hid (C.out.step hx2)
      clear hx2 C hlv
      cases hg : greatRB r with
      | true =>
        go_wp2
        go_ret
        exact ⟨rfl, C2.out.ext⟩
      | false =>
      clear hg
      have hlv := HLV.out _ C2.out.ext
      go_wp2_with fail
      refine (codec_encode w2 r HSR.out.c).mono ?_
      rintro e w3 ⟨A4, c4, rfl, ho4, hx4, _⟩
      have C3 := Lib.hid (C2.out.step hx4)
      have O4 := Lib.hid (Owns.reads ho4)
      clear ho4 hx4 C2 hlv
      by_cases hrc : recCode r = 0
      · have HE := Lib.hid (show encBytes r = recBytes r from if_pos hrc)
        have HGG := Lib.hid (show ins' = ins ++ [r] by rw [HG.out, if_pos hrc])
        have hbd := (recBytes_bounds (recCode_ok hrc)).2
        have O4 := Lib.hid (show Reads w3 w3.heap.size A4 (recBytes r) by rw [← HE.out]; exact O4.out)
        rw [HE.out, hrc]
        obtain ⟨N1, hN1⟩ : ∃ N, (logBytes ins).length + (recBytes r).length = N := ⟨_, rfl⟩
        have HN1 := Lib.hid hN1
        have hN1b : N1 ≤ 3000 := by omega
        have HBB := Lib.hid hbd
        clear hrc hN1 hbd
        go_wp2_with (first
          | (at_builtin; refine wpList_append_own' (by rfl) (.tmp 42) (.tmp 43) 66 (by rfl) elemByte Try.underlying66 (v := .slice A1 (logBytes ins).length c1) (l := logBytes ins) (by rfl) C3.out.o1 (recBytes r) (by rfl) N1 HN1.out (by rfl) O4.out (by have := HBB.out; omega) ?_
             intro A5 c5 w5 hown hgrow hat
             have O5 := Lib.hid hown
             have G5 := Lib.hid hgrow
             have T5 := Lib.hid hat
             have X5 := Lib.hid (C3.out.ext.grown hgrow fun j hj => .inr (C3.out.n1 j hj))
             have hlv5 := HLV.out _ X5.out
             clear hown hgrow hat)
          | (at_builtin; refine wpList_append_own' (by rfl) (.tmp 45) (.tmp 50) 51 (by rfl) elemRecord Try.underlying51 (v := .slice A2 ins.length c2) (l := ins) (by rfl) ((C3.out.o2.grownBeside C3.out.o1 (by decide) G5.out).ext ((Touch.refl _ w5).alloc _)) [r] (by rfl) (ins.length + 1) (by rfl) (by rfl) (reads_block (x := r) (t := 63) (fr := (0, 0)) (heap_alloc_new _ _) (w5.heap.size + 1) (by omega)) (by simp; omega) ?_
             intro A6 c6 w6 hown hgrow hat
             have O6 := Lib.hid hown
             have G6 := Lib.hid hgrow
             have T6 := Lib.hid hat
             clear hown hgrow hat)
          | (at_builtin; refine wpList_append_own' (by rfl) (.tmp 52) (.tmp 55) 78 (by rfl) elemInt Try.underlying78 (v := .slice A3 (endsOf ins).length c3) (l := endsOf ins) (by rfl) (((((C3.out.o3.grownBeside C3.out.o1 (by decide) G5.out).ext ((Touch.refl _ w5).alloc (.cells r.cells 63))).grownBeside ((C3.out.o2.grownBeside C3.out.o1 (by decide) G5.out).ext ((Touch.refl _ w5).alloc (.cells r.cells 63))) (by decide) G6.out)).ext ((Touch.refl _ w6).alloc _)) [(N1 : Int)] (by rfl) ((endsOf ins).length + 1) (by rfl) (by rfl) (reads_block (x := (N1 : Int)) (t := 3) (fr := (0, 0)) (heap_alloc_new _ _) (w6.heap.size + 1) (by omega)) (by have := HI3.out; simp; omega) ?_
             intro A7 c7 w7 hown hgrow hat
             have O7 := Lib.hid hown
             have G7 := Lib.hid hgrow
             have T7 := Lib.hid hat
             clear hown hgrow hat))
        have x5 : Ext w5 (w5.alloc (.cells r.cells 63)) := (Touch.refl _ w5).alloc _
        have x6 : Ext w6 (w6.alloc (.cells #[.int .i64 (N1 : Int)] 3)) := (Touch.refl _ w6).alloc _
        have o25 := (C3.out.o2.grownBeside C3.out.o1 (by decide) G5.out).ext x5
        have o35 := (C3.out.o3.grownBeside C3.out.o1 (by decide) G5.out).ext x5
        have o16 := ((O5.out.ext x5).grownBeside o25 (by decide) G6.out).ext x6
        have o36 := (o35.grownBeside o25 (by decide) G6.out).ext x6
        have X5a := X5.out.then x5 fun _ h => h.elim
        have X6 := X5a.grown G6.out fun j hj => .inr (C3.out.n2 j hj)
        have X6a := X6.then x6 fun _ h => h.elim
        have X7 := X6a.grown G7.out fun j hj => .inr (C3.out.n3 j hj)
        have hfin : CutAt W w7 (.slice A5 N1 c5) (.slice A6 (ins.length + 1) c6) (.slice A7 ((endsOf ins).length + 1) c7) ins' := by
          rw [HGG.out]
          refine ⟨?_, (O6.out.ext x6).grownBeside o36 (by decide) G7.out, ?_, new_at C3.out.n1 C3.out.ext T5.out, new_at C3.out.n2 X5a T6.out, new_at C3.out.n3 X6a T7.out, X7⟩
          · rw [logBytes_append, logBytes_one]
            exact o16.grownBeside o36 (by decide) G7.out
          · rw [endsOf_snoc, logBytes_append, logBytes_one, List.length_append, HN1.out]
            exact O7.out
        have HFIN := Lib.hid hfin
        clear x5 x6 o25 o35 o16 o36 X5a X6 X6a X7 hfin
        go_roundw
        case rel => exact ⟨k + 1, by go_num, by omega, by rw [HI'.out]; exact HFIN.out⟩
        case measure => simp [intOf]; omega
      · have hcb : (recCode r == 0) = false := beq_eq_false_iff_ne.2 hrc
        have HGG := Lib.hid (show ins' = ins by rw [HG.out, if_neg hrc, List.append_nil])
        generalize recCode r = code at hcb ⊢
        clear hrc
        go_wp2
        go_roundw
        case rel => exact ⟨k + 1, by go_num, by omega, by rw [HI'.out, HGG.out]; exact C3.out⟩
        case measure => simp [intOf]; omega
    · obtain rfl : k = l.length := by omega
      rw [List.take_length] at *
      clear hC hm2 hm3 X1
      have hok := goodOf_ok l
      generalize goodOf l = ins at C hok hi1 hi2 hi3 hc1 hc2 hc3 ⊢
      have HOK := Lib.hid hok
      have HI3 := Lib.hid hi3
      clear hok hi3
      generalize hnb : (logBytes ins).length = nb at C hi2 hc1 ⊢
      have HNB := Lib.hid hnb
      clear hnb
      have hnb0 : (0 : Int) ≤ nb := by omega
      have hnb1 : (nb : Int) ≤ 2600 := by omega
      have hkl := rnd_lt cut (nb + 1) (by omega)
      have hkw : wrap64 ((IntKind.u64.wrap cut).tmod ((nb : Int) + 1)) = (rnd cut (nb + 1) : Int) := by
        have := rnd_wrap cut (nb + 1) (by omega) (by omega)
        simpa using this
      generalize rnd cut (nb + 1) = kk at hkl hkw
      have hkn : kk ≤ nb := by omega
      have hkn' : (kk : Int) ≤ nb := by omega
      have hkc : (kk : Int) ≤ c1 := by omega
      clear hkl
      go_wp2_with fail
      have O1 := Lib.hid C.out.o1.reads
      have hBI : BytesIn wr.heap.size wr (cutA A1 c1 0 1) kk c1 ((logBytes ins).take kk) := by
        have hlt : ((logBytes ins).take kk).length = kk := by rw [List.length_take]; have := HNB.out; omega
        refine ⟨hlt.symm, by rw [hlt]; omega, hm1, ?_, Nat.le_refl _⟩
        have := (O1.out.cutA (m := c1) (by have := HNB.out; omega) 0).take kk
        rwa [List.drop_zero] at this
      have HBI := Lib.hid hBI
      clear hBI
      refine (codec_all wr _ _ _ ((logBytes ins).take kk) HBI.out (by rw [List.length_take]; omega)).mono ?_
      rintro e w5 ⟨A5, c5, rfl, ho5, hx5, _⟩
      have C5 := Lib.hid (C.out.step hx5)
      have O5 := Lib.hid (Owns.reads ho5)
      have HL5 := Lib.hid (show (recAll ((logBytes ins).take kk)).length ≤ 3000 by have := recAll_length (l := (logBytes ins).take kk); rw [List.length_take] at this; omega)
      clear ho5 hx5 C O1 HBI
      obtain ⟨G, hG⟩ : ∃ G, recAll ((logBytes ins).take kk) = G := ⟨_, rfl⟩
      rw [hG] at O5 HL5 ⊢
      have HG := Lib.hid hG
      clear hG
      have hm3 : (endsOf ins).length ≤ 9223372036854775807 := by have := HI3.out; omega
      have R3 := Lib.hid C5.out.o3.reads
      go_wp2_with fail
      go_loop [14, 15] (fun i e => ∃ m : Nat, i = .int .i64 m ∧ m ≤ ins.length ∧ e = .int .i64 (logBytes (ins.take m)).length ∧ (logBytes (ins.take m)).length ≤ kk) (fun i _ => ins.length - (intOf i).toNat)
      case atStart => exact ⟨0, rfl, Nat.zero_le _, rfl, by simp [logBytes]⟩
      case round =>
        obtain ⟨m, rfl, hm, rfl, hmk⟩ := hrel
        have HMK := Lib.hid hmk
        clear hmk
        by_cases hml : m < ins.length
        · have hml' : (m : Int) < (endsOf ins).length := by have := HI3.out; omega
          obtain ⟨ad3, rfl, _, hat3⟩ := R3.out m _ (endsOf_get hml)
          have hz0 : w5.cell? (ad3.add m) = some (.int .i64 ((logBytes (ins.take (m + 1))).length : Int)) := by
            have := hat3 0 _ rfl
            rwa [addr_add_add, show m * Lies.size Int + 0 = m from Nat.mul_one m] at this
          clear hat3
          by_cases hle : (logBytes (ins.take (m + 1))).length ≤ kk
          · have hle' : ((logBytes (ins.take (m + 1))).length : Int) ≤ kk := by omega
            have HLE := Lib.hid hle
            clear hle
            go_wp2
            go_round
            case rel => exact ⟨m + 1, by go_num, by omega, rfl, HLE.out⟩
            case measure => simp [intOf]; omega
          · have hle' : ¬ ((logBytes (ins.take (m + 1))).length : Int) ≤ kk := by omega
            have HCUT := Lib.hid (recAll_cut HOK.out kk m (by omega) HMK.out (fun _ => by omega) (by have := HNB.out; omega))
            clear hle
            have hGe : G = (ins.take m) := by have := HG.out.symm.trans HCUT.out; simpa using this
            have hgl : ((logBytes G).length : Int) = ((logBytes (ins.take m)).length : Int) := by rw [hGe]
            have hgb : (((logBytes G).length : Int) == ((logBytes (ins.take m)).length : Int)) = true := beq_iff_eq.2 hgl
            have hmc : (m : Int) ≤ c2 := by omega
            have HGE := Lib.hid hGe
            clear hGe hgl
            go_wp2_with fail
            have hR2 := (C5.out.o2.reads.cutA (m := c2) (by omega) 0).take m
            rw [List.drop_zero] at hR2
            have hR2 : Reads w5 w5.heap.size (cutA A2 c2 0 8) (ins.take m) := by have h := hR2; first | exact h | (rw [List.take_length] at h; exact h)
            have hlt : (ins.take m).length = m := by simp; try omega
            have hS := sameRecords w5 w5.heap.size A5 (cutA A2 c2 0 8) G (ins.take m) c5 c2 O5.out hR2 (by have := HL5.out; omega) (by rw [hlt]; omega)
            rw [hlt] at hS
            refine hS.mono ?_
            rintro e w6 ⟨rfl, n6, rfl⟩
            have hdd : decide (G = (ins.take m)) = true := decide_eq_true HGE.out
            clear hS hR2 hlt
            go_wp2
            go_ret
            refine ⟨?_, C5.out.ext.drewN _⟩
            first | rfl | (show Ending.returned (.bool (decide (G = (ins.take m)))) = _; rw [decide_eq_true HGE.out])
        · obtain rfl : m = ins.length := by omega
          have HCUT := Lib.hid (recAll_cut HOK.out kk ins.length (Nat.le_refl _) HMK.out (fun h => by omega) (by have := HNB.out; omega))
          have hml' : ¬ (ins.length : Int) < (endsOf ins).length := by have := HI3.out; omega
          have hGe : G = ins := by have := HG.out.symm.trans HCUT.out; simpa using this
          have hgl : ((logBytes G).length : Int) = ((logBytes ins).length : Int) := by rw [hGe]
          have hgb : (((logBytes G).length : Int) == ((logBytes ins).length : Int)) = true := beq_iff_eq.2 hgl
          have hmc : (ins.length : Int) ≤ c2 := by omega
          have HGE := Lib.hid hGe
          clear hGe hgl
          go_wp2_with fail
          have hR2 := (C5.out.o2.reads.cutA (m := c2) (by omega) 0).take ins.length
          rw [List.drop_zero] at hR2
          have hR2 : Reads w5 w5.heap.size (cutA A2 c2 0 8) ins := by have h := hR2; first | exact h | (rw [List.take_length] at h; exact h)
          have hlt : ins.length = ins.length := by simp; try omega
          have hS := sameRecords w5 w5.heap.size A5 (cutA A2 c2 0 8) G ins c5 c2 O5.out hR2 (by have := HL5.out; omega) (by rw [hlt]; omega)
          rw [hlt] at hS
          refine hS.mono ?_
          rintro e w6 ⟨rfl, n6, rfl⟩
          have hdd : decide (G = ins) = true := decide_eq_true HGE.out
          clear hS hR2 hlt
          go_wp2
          go_ret
          refine ⟨?_, C5.out.ext.drewN _⟩
          first | rfl | (show Ending.returned (.bool (decide (G = ins))) = _; rw [decide_eq_true HGE.out])
end Go.Proofs.Ytalfbhhldfffkaa
