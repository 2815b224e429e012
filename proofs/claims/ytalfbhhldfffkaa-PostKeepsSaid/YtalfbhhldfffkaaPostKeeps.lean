/- PostKeeps: for every list of steps the law returns true and leaves its argument as it was. No condition. -/
import Derived.Test.YtalfbhhldfffkaaPair
import Derived.Test.YtalfbhhldfffkaaRead
namespace Go.Proofs.Ytalfbhhldfffkaa
open Go.RowKit

/-- Post holds L, the law's list R beside it is L in some order. -/
def Kept (W wr : World) (gp : Nat) (u : Value) (L R : List Packet) : Prop :=
  ∃ vp, Beside W wr 96 33 33 gp vp L u R ∧ L.length ≤ 40 ∧ List.Perm R L

/-- The last place below q at which m stands; -1 if there is none. -/
def LastAt (R : List Packet) (m : Packet) (q : Nat) (a : Int) : Prop := (a = -1 ∧ ∀ j, j < q → R[j]? ≠ some m) ∨ (∃ j : Nat, j < q ∧ a = (j : Int) ∧ R[j]? = some m)
theorem LastAt.next {R : List Packet} {m p : Packet} {q : Nat} {a : Int} (h : LastAt R m q a) (hp : R[q]? = some p) (hne : ¬ p = m) : LastAt R m (q + 1) a := by
  rcases h with ⟨h1, h2⟩ | ⟨j, h1, h2, h3⟩
  · refine .inl ⟨h1, fun j hj e => ?_⟩
    by_cases hjq : j = q
    · subst hjq; rw [hp] at e; exact hne (Option.some.inj e)
    · exact h2 j (by omega) e
  · exact .inr ⟨j, by omega, h2, h3⟩
theorem LastAt.found {R : List Packet} {m : Packet} {q j0 : Nat} {a : Int} (h : LastAt R m q a) (hq : R.length ≤ q) (h0 : R[j0]? = some m) : ∃ j : Nat, a = (j : Int) ∧ R[j]? = some m := by
  rcases h with ⟨_, h2⟩ | ⟨j, _, h2, h3⟩
  · exact absurd h0 (h2 j0 (by have := (List.getElem?_eq_some_iff.1 h0).1; omega))
  · exact ⟨j, h2, h3⟩

theorem cut_perm {l r : List Packet} {i j : Nat} {m : Packet} (h : l[i]? = some m) (h' : r[j]? = some m) (hp : List.Perm r l) : List.Perm (r.take j ++ r.drop (j + 1)) (l.take i ++ l.drop (i + 1)) := by
  have key : ∀ (s : List Packet) (k : Nat), s[k]? = some m → List.Perm s (m :: (s.take k ++ s.drop (k + 1))) := by
    intro s k hk
    have hlt := (List.getElem?_eq_some_iff.1 hk).1
    have e : s = s.take k ++ (m :: s.drop (k + 1)) := by
      have hd : s.drop k = m :: s.drop (k + 1) := by
        rw [List.drop_eq_getElem_cons hlt, (List.getElem?_eq_some_iff.1 hk).2]
      rw [← hd, List.take_append_drop]
    have := (List.perm_middle (a := m) (l₁ := s.take k) (l₂ := s.drop (k + 1)))
    rw [← e] at this
    exact this
  exact List.Perm.cons_inv (((key r j h').symm.trans hp).trans (key l i h))


set_option maxHeartbeats 4000000 in
set_option maxRecDepth 100000 in
theorem postKeeps_small (W : World) (A : Option Addr) (c : Nat) (l : List PostStep) (hr : Reads W W.heap.size A l) (hl : l.length ≤ 200) :
    Calls Try.prog 4 #[.slice A l.length c] W fun e w' => e = .returned (.bool true) ∧ Ext W w' := by
  have HR := Lib.hid hr
  have hl' : ¬ 200 < l.length := by omega
  clear hr
  go_enter Try.func4, Try.ntmps4
  go_wp2_with fail
  refine (post_begun _).mono ?_
  rintro e w1 ⟨rfl, he1⟩
  have E1 := Lib.hid he1
  clear he1
  go_wp2_with fail
  refine (post_new _).mono ?_
  rintro e w2 ⟨rfl, rfl⟩
  go_wp2_with fail
  have hB0 : Kept W (w1.alloc (.cells #[.slice none 0 0] 96)) w1.heap.size (.slice none 0 0) [] [] := by
    have hE := E1.out.size
    exact ⟨_, ⟨Holds.new w1 _ _, Owns.nil _ _, fun k hk => by have := foot_new w1 k hk; omega, fun k hk => by simp [Value.ownBlock] at hk, fun k hk hk' => by simp [Value.ownBlock] at hk', E1.out.alloc _⟩, by simp, List.Perm.refl _⟩
  have HB0 := Lib.hid hB0
  clear hB0
  generalize hgp : w1.heap.size = gp at *
  generalize hw2 : w1.alloc (.cells #[.slice none 0 0] 96) = w2 at *
  clear hw2 hgp
  go_loopw [4, 5] (fun u i wr => ∃ (k : Nat) (L R : List Packet), i = .int .i64 k ∧ k ≤ l.length ∧ Kept W wr gp u L R) (fun u i _ => l.length - (intOf i).toNat)
  case atStart => exact ⟨0, [], [], rfl, Nat.zero_le _, HB0.out⟩
  case round =>
    obtain ⟨k, L, R, rfl, hk, vp, P0, hL0, hpm0⟩ := hrel
    by_cases hlt : k < l.length
    · obtain ⟨x, hx⟩ : ∃ x, l[k]? = some x := ⟨l[k], by simp [hlt]⟩
      obtain ⟨ad, rfl, had, hat⟩ := HR.out k x hx
      have hadk : (ad.add (k * 11)).block = ad.block := by unfold Addr.add; split <;> rfl
      have hLV : LV Try.prog 35 (ad.add (k * 11)) wr = .ok (.agg x.cells) wr := LV_PostStep (hat.of_same (P0.ex.block _ (by show (ad.add (k * 11)).block < _; rw [hadk]; exact had) id))
      have hRl : R.length ≤ 40 := by rw [hpm0.length_eq]; exact hL0
      obtain ⟨AR, cR, rfl, hcR, hcmR, hrR⟩ := P0.ho.form
      have P := Lib.hid P0
      have HL := Lib.hid hL0
      have HPM := Lib.hid hpm0
      have HRR := Lib.hid hrR
      have HRL := Lib.hid hRl
      clear P0 hL0 hx hat had hadk hpm0 hcmR hrR hRl
      have hx0 : (wr.alloc (.cells x.cells 35 (0, 0))).heap[wr.heap.size]? = some (.cells x.cells 35 (0, 0)) := by simp only [heap_alloc_at]
      by_cases h0 : x.do_ = 0
      · have hd0 : (x.do_ == 0) = true := beq_iff_eq.2 h0
        clear h0
        by_cases hfull : L.length < 40
        · have hsend : pSend L x.m = (true, L ++ [x.m]) := by unfold pSend; rw [if_pos hfull]
          have hsend1 : (pSend L x.m).1 = true := by rw [hsend]
          have hsend2 : (pSend L x.m).2 = L ++ [x.m] := by rw [hsend]
          clear hsend
          obtain ⟨N, hN⟩ : ∃ N, R.length + [x.m].length = N := ⟨_, rfl⟩
          go_wp2_with (first
            | (go_at_call 22
               refine (post_len _ gp _ L (P.out.hp.ext ((Touch.refl _ _).alloc _))).mono ?_
               rintro e w5 ⟨rfl, rfl⟩)
            | (go_at_call 16
               refine (post_send' _ gp vp L x.m (P.out.hp.ext (((Touch.refl _ wr).alloc _)))).mono ?_
               rw [hsend1, hsend2]
               rintro e w3 ⟨rfl, vp3, hp3, tp3, fp3⟩
               have hx3 := tp3.blk (b := wr.heap.size) hx0 (fun hk => by have := P.out.hp.foot_lt _ hk; omega)
               have P3 := Lib.hid (P.out.turn ((Touch.refl _ wr).alloc _) hp3 tp3 fp3)
               clear hp3 tp3 fp3)
            | (at_builtin
               refine wpList_append_own' (by rfl) (.tmp 40) (.tmp 43) 26 (by rfl) elemPacket Try.underlying26 (v := .slice AR R.length cR) (l := R) (by rfl) (P3.out.ho.ext ((Touch.refl _ w3).alloc _)) [x.m] (by rfl) N hN (by rfl) (reads_block (x := x.m) (t := 33) (fr := (0, 0)) (heap_alloc_new _ _) (w3.heap.size + 1) (by omega)) (by have := HRL.out; simp; omega) ?_
               intro A3 c3 w4 ho4 hg4 hat4
               have P4 := Lib.hid (P3.out.more ((Touch.refl _ w3).alloc _) ho4 hg4 hat4)
               clear ho4 hg4 hat4))
          have P1 := P4.out
          have hl1 : (L ++ [x.m]).length ≤ 40 := by simp; omega
          have hp1 : List.Perm (R ++ [x.m]) (L ++ [x.m]) := HPM.out.append_right _
          have hN' : N = (R ++ [x.m]).length := by rw [← hN]; simp
          clear hN P4 P3 P HPM HRR hsend1 hsend2 hx3 hfull
          generalize R ++ [x.m] = R' at *
          generalize L ++ [x.m] = L' at *
          subst hN'
          have P' := Lib.hid P1
          have hL' := Lib.hid hl1
          have e1 : ((L'.length : Int) != (R'.length : Int)) = false := by rw [hp1.length_eq]; simp
          have hl40 : ((40 : Int) < (L'.length : Int)) = False := by simp; omega
          have HPM' := Lib.hid hp1
          clear P1 hl1 hp1
          refine (post_len _ gp _ L' P'.out.hp).mono ?_
          rintro e w5 ⟨rfl, rfl⟩
          go_wp2_with (go_at_call 22
                       refine (post_len _ gp _ L' P'.out.hp).mono ?_
                       rintro e w5 ⟨rfl, rfl⟩)
          go_roundw
          case rel => exact ⟨k + 1, L', R', by go_num, by omega, _, P'.out, hL'.out, HPM'.out⟩
          case measure => simp [intOf]; omega
        · have hsend1 : (pSend L x.m).1 = false := by unfold pSend; rw [if_neg hfull]
          have hsend2 : (pSend L x.m).2 = L := by unfold pSend; rw [if_neg hfull]
          go_wp2_with (first
            | (go_at_call 22
               refine (post_len _ gp _ L (P.out.hp.ext ((Touch.refl _ _).alloc _))).mono ?_
               rintro e w5 ⟨rfl, rfl⟩)
            | (go_at_call 16
               refine (post_send' _ gp vp L x.m (P.out.hp.ext (((Touch.refl _ wr).alloc _)))).mono ?_
               rw [hsend1, hsend2]
               rintro e w3 ⟨rfl, vp3, hp3, tp3, fp3⟩
               have P3 := Lib.hid (P.out.turn ((Touch.refl _ wr).alloc _) hp3 tp3 fp3)
               clear hp3 tp3 fp3))
          have P1 := P3.out
          have hl1 := HL.out
          have hp1 := HPM.out
          clear P3 P HPM HRR hsend1 hsend2 hfull HL
          generalize R = R' at *
          generalize L = L' at *
          have P' := Lib.hid P1
          have hL' := Lib.hid hl1
          have e1 : ((L'.length : Int) != (R'.length : Int)) = false := by rw [hp1.length_eq]; simp
          have hl40 : ((40 : Int) < (L'.length : Int)) = False := by simp; omega
          have HPM' := Lib.hid hp1
          clear P1 hl1 hp1
          refine (post_len _ gp _ L' P'.out.hp).mono ?_
          rintro e w5 ⟨rfl, rfl⟩
          go_wp2_with (go_at_call 22
                       refine (post_len _ gp _ L' P'.out.hp).mono ?_
                       rintro e w5 ⟨rfl, rfl⟩)
          go_roundw
          case rel => exact ⟨k + 1, L', R', by go_num, by omega, _, P'.out, hL'.out, HPM'.out⟩
          case measure => simp [intOf]; omega
      have hd0 : (x.do_ == 0) = false := beq_eq_false_iff_ne.2 h0
      by_cases h1 : x.do_ = 1
      · have hd1 : (x.do_ == 1) = true := beq_iff_eq.2 h1
        clear h0 h1
        by_cases hl0 : L = []
        · subst hl0
          have ht1 : (pTake ([] : List Packet) x.n).1 = Packet.zero := by simp [pTake]
          have ht2 : (pTake ([] : List Packet) x.n).2.1 = false := by simp [pTake]
          have ht3 : (pTake ([] : List Packet) x.n).2.2 = [] := by simp [pTake]
          have hL0 : (((([] : List Packet).length : Nat) : Int) != 0) = false := by simp
          go_wp2_with (first
            | (go_at_call 22
               refine (post_len _ gp _ [] (P.out.hp.ext ((Touch.refl _ _).alloc _))).mono ?_
               rintro e w5 ⟨rfl, rfl⟩)
            | (go_at_call 18
               refine (post_take' _ gp vp [] x.n (P.out.hp.ext (((Touch.refl _ wr).alloc _))) HL.out).mono ?_
               rw [ht1, ht2, ht3]
               rintro e w3 ⟨rfl, vp3, hp3, tp3, fp3⟩
               have P3 := Lib.hid (P.out.turn ((Touch.refl _ wr).alloc _) hp3 tp3 fp3)
               clear hp3 tp3 fp3))
          have P1 := P3.out.ext ((Touch.refl _ w3).alloc (.cells Packet.zero.cells 33 (0, 0)))
          have hl1 := HL.out
          have hp1 := HPM.out
          clear P3 P HPM HRR HL ht1 ht2 ht3 hL0
          generalize R = R' at *
          generalize ([] : List Packet) = L' at *
          have P' := Lib.hid P1
          have hL' := Lib.hid hl1
          have e1 : ((L'.length : Int) != (R'.length : Int)) = false := by rw [hp1.length_eq]; simp
          have hl40 : ((40 : Int) < (L'.length : Int)) = False := by simp; omega
          have HPM' := Lib.hid hp1
          clear P1 hl1 hp1
          refine (post_len _ gp _ L' P'.out.hp).mono ?_
          rintro e w5 ⟨rfl, rfl⟩
          go_wp2_with (go_at_call 22
                       refine (post_len _ gp _ L' P'.out.hp).mono ?_
                       rintro e w5 ⟨rfl, rfl⟩)
          go_roundw
          case rel => exact ⟨k + 1, L', R', by go_num, by omega, _, P'.out, hL'.out, HPM'.out⟩
          case measure => simp [intOf]; omega
        have hpos : 0 < L.length := List.length_pos_iff.2 hl0
        have hi := rnd_lt x.n L.length hpos
        obtain ⟨m, hm⟩ : ∃ m, L[rnd x.n L.length]? = some m := ⟨L[rnd x.n L.length], by simp [hi]⟩
        have ht1 : (pTake L x.n).1 = m := by simp [pTake, hm]
        have ht2 : (pTake L x.n).2.1 = true := by simp [pTake, hm]
        have ht3 : (pTake L x.n).2.2 = L.take (rnd x.n L.length) ++ L.drop (rnd x.n L.length + 1) := by simp [pTake, hm]
        obtain ⟨j0, hj0⟩ : ∃ j, R[j]? = some m := by
          have : m ∈ R := HPM.out.mem_iff.2 (List.mem_of_getElem? hm)
          exact List.getElem?_of_mem this
        obtain ⟨L', hL'⟩ : ∃ L', L' = L.take (rnd x.n L.length) ++ L.drop (rnd x.n L.length + 1) := ⟨_, rfl⟩
        have hlen' : L'.length + 1 = L.length := by rw [hL']; simp; omega
        have HL' := Lib.hid hL'
        have HM := Lib.hid hm
        rw [← hL'] at ht3
        have HJ := Lib.hid hj0
        clear hm hj0 hL' hi hl0
        go_wp2_with (first
          | (go_at_call 22
             refine (post_len _ gp _ L (P.out.hp.ext ((Touch.refl _ _).alloc _))).mono ?_
             rintro e w5 ⟨rfl, rfl⟩)
          | (go_at_call 18
             refine (post_take' _ gp vp L x.n (P.out.hp.ext (((Touch.refl _ wr).alloc _))) HL.out).mono ?_
             rw [ht1, ht2, ht3]
             rintro e w3 ⟨rfl, vp3, hp3, tp3, fp3⟩
             have P3 := Lib.hid (P.out.turn ((Touch.refl _ wr).alloc _) hp3 tp3 fp3)
             clear hp3 tp3 fp3))
        have hmb : (w3.alloc (.cells m.cells 33 (0, 0))).heap[w3.heap.size]? = some (.cells m.cells 33 (0, 0)) := heap_alloc_new _ _
        have P4 := Lib.hid (P3.out.ext ((Touch.refl _ w3).alloc (.cells m.cells 33 (0, 0))))
        clear P3 hx0 hLV ht1 ht2 ht3
        generalize w3.heap.size = mb at *
        generalize w3.alloc (.cells m.cells 33 (0, 0)) = w4 at *
        have hRl40 := HRL.out
        go_loopw [10, 11] (fun at' i' wr' => ∃ (a : Int) (q n : Nat), wr' = w4.drewN n ∧ at' = .int .i64 a ∧ i' = .int .i64 q ∧ q ≤ R.length ∧ LastAt R m q a) (fun _ i' _ => R.length - (intOf i').toNat)
        case atStart => exact ⟨-1, 0, 0, rfl, rfl, rfl, Nat.zero_le _, .inl ⟨rfl, fun j hj => by omega⟩⟩
        case round =>
          obtain ⟨a, q, n, rfl, rfl, rfl, hq, hla⟩ := hrel
          have HLA := Lib.hid hla
          clear hla
          by_cases hqlt : q < R.length
          · obtain ⟨p, hp⟩ : ∃ p, R[q]? = some p := ⟨R[q], by simp [hqlt]⟩
            obtain ⟨ad', rfl, had', hrow'⟩ := P4.out.ho.reads q p hp
            have hLp : ∀ n, LV Try.prog 33 (ad'.add (q * 9)) (w4.drewN n) = .ok (.agg p.cells) (w4.drewN n) := fun n => LV_Packet (w := w4.drewN n) hrow'
            have HP := Lib.hid hp
            clear hp hrow' had'
            by_cases hpm : p = m
            · subst hpm
              go_wp2
              go_quiet (fail)
              go_wp2
              go_roundw
              case rel => exact ⟨_, q + 1, _, rfl, rfl, by go_num, by omega, .inr ⟨q, by omega, rfl, HP.out⟩⟩
              case measure => simp [intOf]; omega
            · have hd : decide (p = m) = false := by simp [hpm]
              have HPM2 := Lib.hid hpm
              clear hpm
              go_wp2
              go_quiet (fail)
              go_wp2
              go_roundw
              case rel => exact ⟨_, q + 1, _, rfl, rfl, by go_num, by omega, HLA.out.next HP.out HPM2.out⟩
              case measure => simp [intOf]; omega
          · obtain ⟨j, rfl, hj⟩ := HLA.out.found (by omega) HJ.out
            have hjl := (List.getElem?_eq_some_iff.1 hj).1
            obtain ⟨adR, rfl, _, _⟩ := P4.out.ho.reads j m hj
            have hj0 : (0 : Int) ≤ (j : Int) := by omega
            have hj1 : ((j : Int) < 0) = False := by simp
            have hj2 : (j : Int) < R.length := by omega
            have hj3 : (j : Int) ≤ 100 := by omega
            have hj4 : (0 : Int) ≤ (j : Int) + 1 := by omega
            have hj5 : (j : Int) + 1 ≤ R.length := by omega
            have hj6 : j ≤ cR := by omega
            have hj7 : j + 1 ≤ R.length := by omega
            have hw1 : wrap64 ((L.length : Int) - 1) = (L'.length : Int) := by have := HL.out; unfold wrap64; omega
            have hw1' : IntKind.i64.wrap ((L.length : Int) - 1) = (L'.length : Int) := by have := HL.out; rw [IntWalk.i64_in _ (by omega)]; omega
            have hwr : IntKind.i64.wrap ((j : Int) + 1) = (j : Int) + 1 := IntWalk.i64_in _ (by omega)
            have hwn : ((j : Int) + 1).toNat = j + 1 := by omega
            obtain ⟨A1, hA1⟩ : ∃ A1, (if cR = j + 1 then some adR else some (adR.add ((j + 1) * 9))) = A1 := ⟨_, rfl⟩
            have HJ' := Lib.hid hj
            have HRA := Lib.hid ((P4.out.ext ((Touch.refl _ w4).drewN n)).ho.reads.take j)
            have HRB := Lib.hid ((P4.out.ext ((Touch.refl _ w4).drewN n)).ho.reads.cut (j + 1) cR hcR hA1)
            have P5 := Lib.hid ((P4.out.ext ((Touch.refl _ w4).drewN n)))
            clear hj hmb
            generalize w4.drewN n = w5 at *
            go_wp2_with fail
            refine (post_len _ gp _ L' P5.out.hp).mono ?_
            rintro e w6 ⟨rfl, rfl⟩
            go_wp2_with fail
            obtain ⟨N, hN⟩ : ∃ N, (R.take j).length + (R.length - (j + 1)) = N := ⟨_, rfl⟩
            have HT : Hid (j = (R.take j).length) := by show j = _; rw [List.length_take]; omega
            have HD : Hid (R.length - (j + 1) = (R.drop (j + 1)).length) := by show _ = _; rw [List.length_drop]
            have HN : Hid ((R.take j).length + (R.length - (j + 1)) = N) := hN
            have hN2 : j + (R.length - (j + 1)) = N := by rw [← hN, List.length_take]; omega
            clear hN
            go_region_law (first
              | (refine step_append_own (by rfl) (.tmp 80) (.tmp 83) 26 (by rfl) elemPacket Try.underlying26 (v := .slice none 0 0) (l := []) (by simp [Act.eval, Act.put]) (Owns.nil _ _) (R.take j) HT.out j (by simp) (by simp [Act.eval, Act.put]; rfl) HRA.out (by have := HT.out; simp; omega) ?_
                 intro A2 c2 w6 hown2 hgrow2 hat2
                 simp only [List.nil_append] at hown2
                 have hob2 : ∀ k, (Value.slice A2 j c2).ownBlock = some k → w5.heap.size ≤ k := fun k hk => by
                   rcases hat2 with h1 | h1 <;> rw [h1] at hk <;> simp [Value.ownBlock] at hk
                   omega)
              | (refine step_append_own (by rfl) (.tmp 84) (.tmp 88) 26 (by rfl) elemPacket Try.underlying26 (v := .slice A2 j c2) (l := R.take j) (by simp [Act.eval, Act.put]) hown2 (R.drop (j + 1)) HD.out N HN.out (by simp [Act.eval, Act.put]; rfl) (HRB.out.below fun k hk => hgrow2.block k hk (by simp [Value.ownBlock])) (by simp; omega) ?_
                 intro A3 c3 w7 hown3 hgrow3 hat3
                 have hob3 : ∀ k, (Value.slice A3 N c3).ownBlock = some k → w5.heap.size ≤ k := fun k hk => by
                   rcases hat3 with h1 | h1
                   · exact hob2 k (h1 ▸ hk)
                   · rw [h1] at hk; injection hk with hk; have h2 : w6.heap.size = k := hk; have h3 : w5.heap.size ≤ w6.heap.size := hgrow2.size; omega
                 have P6 := Lib.hid (P5.out.anew ((((Touch.refl _ w5).drew).grown hgrow2 (by simp [Value.ownBlock])).grown hgrow3 (fun k hk => .inr (hob2 k hk))) hown3 hob3)
                 clear hown3 hown2 hob2 hob3 hat2 hat3 hgrow2 hgrow3))
            all_goals
              have P1 := P6.out
              have hl1 : L'.length ≤ 40 := by have := HL.out; omega
              have hp1 : List.Perm (R.take j ++ R.drop (j + 1)) L' := by rw [HL'.out]; exact cut_perm HM.out HJ'.out HPM.out
              have hN' : N = (R.take j ++ R.drop (j + 1)).length := by rw [← HN.out]; simp
              clear hN2 HN HT HD P6 P5 P4 HPM HRR HRA HRB HJ' HJ HM HL' HLA
              generalize R.take j ++ R.drop (j + 1) = R' at *
              subst hN'
              go_wp2_with fail
              have P' := Lib.hid P1
              have hL' := Lib.hid hl1
              have e1 : ((L'.length : Int) != (R'.length : Int)) = false := by rw [hp1.length_eq]; simp
              have hl40 : ((40 : Int) < (L'.length : Int)) = False := by simp; omega
              have HPM' := Lib.hid hp1
              clear P1 hl1 hp1
              refine (post_len _ gp _ L' P'.out.hp).mono ?_
              rintro e w5 ⟨rfl, rfl⟩
              go_wp2_with (go_at_call 22
                           refine (post_len _ gp _ L' P'.out.hp).mono ?_
                           rintro e w5 ⟨rfl, rfl⟩)
              go_roundw
              case rel => exact ⟨k + 1, L', R', by go_num, by omega, _, P'.out, hL'.out, HPM'.out⟩
              case measure => simp [intOf]; omega
      have hd1 : (x.do_ == 1) = false := beq_eq_false_iff_ne.2 h1
      by_cases h2 : x.do_ = 2
      · have hd2 : (x.do_ == 2) = true := beq_iff_eq.2 h2
        clear h0 h1 h2
        by_cases hdbl : 0 < L.length ∧ L.length < 40
        · obtain ⟨hpos, hfull⟩ := hdbl
          have hi := rnd_lt x.n L.length hpos
          obtain ⟨m, hm⟩ : ∃ m, L[rnd x.n L.length]? = some m := ⟨L[rnd x.n L.length], by simp [hi]⟩
          have hd1' : (pDouble L x.n).1 = true := by unfold pDouble pSend; rw [hm]; simp [hfull]
          have hd2' : (pDouble L x.n).2 = L ++ [m] := by unfold pDouble pSend; rw [hm]; simp [hfull]
          have HM := Lib.hid hm
          have hidx := rnd_wrap x.n L.length hpos (by omega)
          have hi0 : (0 : Int) ≤ rnd x.n L.length := by omega
          have hi2 : (rnd x.n L.length : Int) < L.length := by omega
          have hi3 : (rnd x.n L.length : Int) ≤ 100 := by omega
          clear hm
          have hL0 : ((L.length : Int) == 0) = false := beq_eq_false_iff_ne.2 (by omega)
          obtain ⟨N, hN⟩ : ∃ N, R.length + [m].length = N := ⟨_, rfl⟩
          go_wp2_with (first
            | (go_at_call 22
               refine (post_len _ gp _ L (P.out.hp.ext ((Touch.refl _ _).alloc _))).mono ?_
               rintro e w5 ⟨rfl, rfl⟩)
            | (go_at_call 24
               refine (post_list _ gp _ L (P.out.hp.ext ((Touch.refl _ _).alloc _)) HL.out).mono ?_
               rintro e w6 ⟨A6, c6, rfl, ho6, he6, hf6⟩
               have hx6 := he6.blk hx0 id
               have hc6 : w6.cell? ⟨wr.heap.size, 1, none⟩ = some (.int .i64 x.n) := cell_of hx6 1
               have HO6 := Lib.hid ho6
               have HE6 := Lib.hid he6
               have HF6 := Lib.hid hf6
               clear ho6 he6 hf6)
            | (go_at_call 20
               refine (post_double' _ gp vp L x.n (P.out.hp.ext ((((Touch.refl _ wr).alloc _).trans HE6.out))) HL.out).mono ?_
               rw [hd1', hd2']
               rintro e w3 ⟨rfl, vp3, hp3, tp3, fp3⟩
               have hx3 := tp3.blk (b := wr.heap.size) hx6 (fun hk => by have := P.out.hp.foot_lt _ hk; omega)
               have hc3 : w3.cell? ⟨wr.heap.size, 1, none⟩ = some (.int .i64 x.n) := cell_of hx3 1
               have P3 := Lib.hid (P.out.turn (((Touch.refl _ wr).alloc _).trans HE6.out) hp3 tp3 fp3)
               have HR3 := Lib.hid (Owns.reads (HO6.out.touch tp3 (fun k hk hk' => by have := P.out.hp.foot_lt _ hk'; have := HF6.out k hk; simp at this; omega)))
               obtain ⟨ad6, rfl, hadb6, hat6⟩ := HR3.out _ m HM.out
               have hLV3 : LV Try.prog 33 (ad6.add (rnd x.n L.length * 9)) w3 = .ok (.agg m.cells) w3 := LV_Packet hat6
               clear hp3 tp3 fp3 hadb6 hat6)
            | (at_builtin
               refine wpList_append_own' (by rfl) (.tmp 101) (.tmp 113) 26 (by rfl) elemPacket Try.underlying26 (v := .slice AR R.length cR) (l := R) (by rfl) (P3.out.ho.ext ((Touch.refl _ w3).alloc _)) [m] (by rfl) N hN (by rfl) (reads_block (x := m) (t := 33) (fr := (0, 0)) (heap_alloc_new _ _) (w3.heap.size + 1) (by omega)) (by have := HRL.out; simp; omega) ?_
               intro A3 c3 w4 ho4 hg4 hat4
               have P4 := Lib.hid (P3.out.more ((Touch.refl _ w3).alloc _) ho4 hg4 hat4)
               clear ho4 hg4 hat4))
          have P1 := P4.out
          have hl1 : (L ++ [m]).length ≤ 40 := by simp; omega
          have hp1 : List.Perm (R ++ [m]) (L ++ [m]) := HPM.out.append_right _
          have hN' : N = (R ++ [m]).length := by rw [← hN]; simp
          clear hN P4 P3 P HPM HRR hd1' hd2' hx3 hfull HO6 HE6 HF6 hx6 hc6 hc3 HR3 hLV3 hidx hi0 hi2 hi3 HM hi
          generalize R ++ [m] = R' at *
          generalize L ++ [m] = L' at *
          subst hN'
          have P' := Lib.hid P1
          have hL' := Lib.hid hl1
          have e1 : ((L'.length : Int) != (R'.length : Int)) = false := by rw [hp1.length_eq]; simp
          have hl40 : ((40 : Int) < (L'.length : Int)) = False := by simp; omega
          have HPM' := Lib.hid hp1
          clear P1 hl1 hp1
          refine (post_len _ gp _ L' P'.out.hp).mono ?_
          rintro e w5 ⟨rfl, rfl⟩
          go_wp2_with (go_at_call 22
                       refine (post_len _ gp _ L' P'.out.hp).mono ?_
                       rintro e w5 ⟨rfl, rfl⟩)
          go_roundw
          case rel => exact ⟨k + 1, L', R', by go_num, by omega, _, P'.out, hL'.out, HPM'.out⟩
          case measure => simp [intOf]; omega
        · have hdb : pDouble L x.n = (false, L) := by
            unfold pDouble
            split
            · rename_i m hm
              have hlt := (List.getElem?_eq_some_iff.1 hm).1
              unfold pSend
              rw [if_neg (fun h => hdbl ⟨by omega, h⟩)]
            · rfl
          have hd1' : (pDouble L x.n).1 = false := by rw [hdb]
          have hd2' : (pDouble L x.n).2 = L := by rw [hdb]
          clear hdb
          go_wp2_with (first
            | (go_at_call 22
               refine (post_len _ gp _ L (P.out.hp.ext ((Touch.refl _ _).alloc _))).mono ?_
               rintro e w5 ⟨rfl, rfl⟩)
            | (go_at_call 24
               refine (post_list _ gp _ L (P.out.hp.ext ((Touch.refl _ _).alloc _)) HL.out).mono ?_
               rintro e w6 ⟨A6, c6, rfl, ho6, he6, hf6⟩
               have hx6 := he6.blk hx0 id
               have hc6 : w6.cell? ⟨wr.heap.size, 1, none⟩ = some (.int .i64 x.n) := cell_of hx6 1
               have HE6 := Lib.hid he6
               clear ho6 he6 hf6)
            | (go_at_call 20
               refine (post_double' _ gp vp L x.n (P.out.hp.ext ((((Touch.refl _ wr).alloc _).trans HE6.out))) HL.out).mono ?_
               rw [hd1', hd2']
               rintro e w3 ⟨rfl, vp3, hp3, tp3, fp3⟩
               have P3 := Lib.hid (P.out.turn (((Touch.refl _ wr).alloc _).trans HE6.out) hp3 tp3 fp3)
               clear hp3 tp3 fp3))
          have P1 := P3.out
          have hl1 := HL.out
          have hp1 := HPM.out
          clear P3 P HPM HRR HL hd1' hd2' HE6 hx6 hc6 hdbl
          generalize R = R' at *
          generalize L = L' at *
          have P' := Lib.hid P1
          have hL' := Lib.hid hl1
          have e1 : ((L'.length : Int) != (R'.length : Int)) = false := by rw [hp1.length_eq]; simp
          have hl40 : ((40 : Int) < (L'.length : Int)) = False := by simp; omega
          have HPM' := Lib.hid hp1
          clear P1 hl1 hp1
          refine (post_len _ gp _ L' P'.out.hp).mono ?_
          rintro e w5 ⟨rfl, rfl⟩
          go_wp2_with (go_at_call 22
                       refine (post_len _ gp _ L' P'.out.hp).mono ?_
                       rintro e w5 ⟨rfl, rfl⟩)
          go_roundw
          case rel => exact ⟨k + 1, L', R', by go_num, by omega, _, P'.out, hL'.out, HPM'.out⟩
          case measure => simp [intOf]; omega
      · have hd2 : (x.do_ == 2) = false := beq_eq_false_iff_ne.2 h2
        clear h0 h1 h2
        go_wp2_with fail
        refine (post_len _ gp _ L (P.out.hp.ext ((Touch.refl _ _).alloc _))).mono ?_
        rintro e w5 ⟨rfl, rfl⟩
        go_wp2_with fail
        have P1 := P.out.ext ((Touch.refl _ wr).alloc (.cells x.cells 35 (0, 0)))
        have hl1 := HL.out
        have hp1 := HPM.out
        clear P HPM HRR HL
        generalize R = R' at *
        generalize L = L' at *
        have P' := Lib.hid P1
        have hL' := Lib.hid hl1
        have e1 : ((L'.length : Int) != (R'.length : Int)) = false := by rw [hp1.length_eq]; simp
        have hl40 : ((40 : Int) < (L'.length : Int)) = False := by simp; omega
        have HPM' := Lib.hid hp1
        clear P1 hl1 hp1
        refine (post_len _ gp _ L' P'.out.hp).mono ?_
        rintro e w5 ⟨rfl, rfl⟩
        go_wp2_with (go_at_call 22
                     refine (post_len _ gp _ L' P'.out.hp).mono ?_
                     rintro e w5 ⟨rfl, rfl⟩)
        go_roundw
        case rel => exact ⟨k + 1, L', R', by go_num, by omega, _, P'.out, hL'.out, HPM'.out⟩
        case measure => simp [intOf]; omega
    · go_wp2
      go_ret
      exact ⟨rfl, P0.ex⟩

set_option maxHeartbeats 400000 in
set_option maxRecDepth 100000 in
theorem postKeeps (W : World) (A : Option Addr) (c : Nat) (l : List PostStep) (hr : Reads W W.heap.size A l) :
    Calls Try.prog 4 #[.slice A l.length c] W fun e w' => e = .returned (.bool true) ∧ Ext W w' := by
  by_cases hl : l.length ≤ 200
  · exact postKeeps_small W A c l hr hl
  · have hl' : 200 < l.length := by omega
    clear hl hr
    go_enter Try.func4, Try.ntmps4
    go_wp2_with fail
    refine (post_begun _).mono ?_
    rintro e w1 ⟨rfl, he1⟩
    have E1 := Lib.hid he1
    clear he1
    go_wp2
    go_ret
    exact ⟨rfl, E1.out⟩
end Go.Proofs.Ytalfbhhldfffkaa
