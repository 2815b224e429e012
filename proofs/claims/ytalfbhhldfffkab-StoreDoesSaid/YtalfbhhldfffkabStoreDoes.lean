/- StoreDoes: the walk of the law. -/
import Derived.Test.YtalfbhhldfffkabStoreC
namespace Go.Proofs.Ytalfbhhldfffkab
open Go.RowKit

/-- the names of a drawer, sorted, are those of the files -/
theorem names_both (L : List Record) : dNames (dbehind L) = (fbehind L).map (·.name) := (behind_srt L).names
theorem drawer_names_of (w : World) (L : List Record) (N : List ByteArray) {A : Option Addr} {c : Nat} (h : Owns w 120 (.slice A (dbehind L).length c) (dbehind L)) (hN : (fbehind L).map (·.name) = N) :
    Calls Try.prog 25 #[.slice A (dbehind L).length c] w (NewList w 9 N) := by
  have hl : (dbehind L).length ≤ 6 := (behind_dok L).len
  rw [← hN, ← names_both]
  exact drawer_names w A c (dbehind L) h.reads (by omega)
/-- as the walk writes it -/
theorem store_log_any (w : World) (gs gf : Nat) (u : Value) (L : List Record) (h : StoreAt w gs gf u (chestD L)) (hl : (logBytes L).length ≤ 100000) :
    Calls Try.prog 23 #[.pointer (some ⟨gs, 0, none⟩)] w (NewList w 5 (logBytes L)) := store_log w gs gf u (chestD L) h hl
def DoesRel (W : World) (gs gr : Nat) (l : List StoreStep) (i : Value) (wr : World) : Prop :=
  ∃ k : Nat, i = .int .i64 k ∧ k ≤ l.length ∧ Has (repNone.and (Both gs gr)) W wr ((), (stepsL [] (l.take k), stepsL [] (l.take k)))
set_option maxHeartbeats 4000000 in
set_option maxRecDepth 100000 in
theorem storeDoes (W : World) (A : Option Addr) (c : Nat) (l : List StoreStep) (Ab : Option Addr) (cb : Nat) (lb : List UInt8) (client : Int) (hr : Reads W W.heap.size A l) (hb : BytesIn W.heap.size W Ab lb.length cb lb) (hs : ∀ x ∈ l, StrStep x) (hl : l.length ≤ 140737488351232) :
    Calls Try.prog 5 #[.slice A l.length c, .slice Ab lb.length cb, .int .i64 client] W fun e w' => e = .returned (.bool true) ∧ Ext W w' := by
  have HR := Lib.hid hr
  have HS := Lib.hid hs
  have HB := Lib.hid hb
  have hcap := hb.cap
  have hcm := hb.max
  unfold maxLen at hcm
  clear hr hs hb
  go_enter Try.func5, Try.ntmps5
  go_wp2_with fail
  refine (store_begun _).mono ?_
  rintro e w1 ⟨rfl, hx1⟩
  have H1 := Lib.hid ((Has.none W).step hx1)
  clear hx1
  go_wp2_with fail
  refine (law_greatStore w1 w1.heap.size A c l (HR.out.ext H1.out.ext) (Nat.le_refl _) HS.out hl).mono ?_
  rintro e w2 ⟨b2, rfl, hx2⟩
  have H2 := Lib.hid (H1.out.step hx2)
  clear hx2 H1
  cases b2 with
  | true =>
    go_wp2
    go_ret
    exact ⟨rfl, H2.out.ext⟩
  | false =>
    by_cases hbig : (3000 : Int) < (lb.length : Int)
    · go_wp2
      go_ret
      exact ⟨by first | rfl | simp [hbig], H2.out.ext⟩
    · have hl3 : lb.length ≤ 3000 := by omega
      go_wp2_with fail
      refine (store_open w2 Ab _ cb lb ⟨rfl, HB.out.cap, HB.out.max, HB.out.reads.ext H2.out.ext, Nat.le_refl _⟩ (by omega)).mono ?_
      rintro e w3 ⟨gx, rfl, hn3⟩
      have H3 := Lib.hid (H2.out.both hn3.has)
      clear hn3 H2
      go_wp2_with fail
      refine (ref_recordsOf w3 Ab _ cb lb ⟨rfl, HB.out.cap, HB.out.max, HB.out.reads.ext H3.out.ext, Nat.le_refl _⟩ (by omega)).mono ?_
      rintro e w4 ⟨A4, c4, rfl, ho4, hx4, hf4⟩
      have H4 := Lib.hid (H3.out.newList hx4 ho4 hf4)
      have HPRE := Lib.hid (recAll_pre lb)
      have HEACH := Lib.hid (recAll_is lb).ok
      clear ho4 hx4 hf4 H3
      generalize recAll lb = O at *
      have hpl := HPRE.out.1
      have hlen := log_len HEACH.out
      have hfb6 := (fbehind_ok O).len
      have HSR := Lib.hid (show ∀ r ∈ O, StrCall r.call from fun r hr => recok_str (HEACH.out r hr))
      have HCVB := Lib.hid (show ∀ w', Ext w4 w' → (convert 39 9 (.slice Ab (logBytes O).length cb)).run Try.prog w' = .ok (.string (mkStr (logBytes O))) w' from fun w' hw' => by
        refine run_convert_reads (P := Try.prog) (B := w'.heap.size) Try.underlying39 Try.underlying5 Try.underlying9 ?_ cb
        rw [HPRE.out.2]
        exact (HB.out.reads.ext (H4.out.ext.trans hw')).take _)
      obtain ⟨F1, hF1, _⟩ := H4.out.left.right.one
      obtain ⟨f1, u1, v1, hA1, hh1⟩ := store_parts hF1
      have HA1 := Lib.hid hA1
      have HH1 := Lib.hid hh1
      have HOL := Lib.hid H4.out.right.owns
      have HG0 := Lib.hid (show ∀ w', Ext w4 w' → w'.cell? ⟨gx, 0, none⟩ = some (.pointer (some ⟨f1, 0, none⟩)) from fun w' hx => (cell_of (hx.blk HA1.out.cell id) 0).trans (StoreD.get0 _ _ _))
      have hself : ((mkStr (logBytes O)).toList == (mkStr (logBytes O)).toList) = true := by simp
      have hkc : ((logBytes O).length : Int) ≤ cb := by omega
      have HEX4 := Lib.hid H4.out.ext
      obtain ⟨d, hd, hd3⟩ : ∃ d : Nat, (lb.length : Int) - ((logBytes O).length : Int) = (d : Int) ∧ d ≤ 3000 := ⟨lb.length - (logBytes O).length, by omega, by omega⟩
      have hdne : ((d : Int) != (d : Int)) = false := by simp
      have hd0 : (0 : Int) ≤ (d : Int) := by omega
      have hd4 : IntKind.i64.wrap (d : Int) = (d : Int) := IntWalk.i64_in _ (by omega)
      clear hF1 hA1 hh1 H4
      go_wp2_with fail
      refine wp_region_held_drew (S := fun w' => Ext w4 w') (by kernel_rfl) (Touch.drew (Touch.refl _ w4)) (fun hHeld => ?_)
      refine wpAnyH_take (i := 0) (v := ?_) (List.getElem?_toArray.trans rfl) (by kernel_rfl) (by kernel_rfl) (by kernel_rfl) (fun _ _ _ h => h) (Or.inl ⟨by rfl, ?_⟩) (by assumption) ?_
      rotate_left
      · intro w' hw'
        try dsimp only at hw'
        skip
        go_simp
        try with_reducible rfl
      try simp only [Act.put, List.setIfInBounds_toArray, List.set_cons_zero, List.set_cons_succ]
      refine wpAnyH_take (i := 1) (v := ?_) (List.getElem?_toArray.trans rfl) (by kernel_rfl) (by kernel_rfl) (by kernel_rfl) (fun _ _ _ h => h) (Or.inl ⟨by rfl, ?_⟩) (by assumption) ?_
      rotate_left
      · intro w' hw'
        try dsimp only at hw'
        skip
        go_simp
        try with_reducible rfl
      try simp only [Act.put, List.setIfInBounds_toArray, List.set_cons_zero, List.set_cons_succ]
      refine wpAnyH_take (i := 2) (v := ?_) (List.getElem?_toArray.trans rfl) (by kernel_rfl) (by kernel_rfl) (by kernel_rfl) (fun _ _ _ h => h) (Or.inl ⟨by rfl, ?_⟩) (by assumption) ?_
      rotate_left
      · intro w' hw'
        try dsimp only at hw'
        skip
        go_simp
        try with_reducible rfl
      try simp only [Act.put, List.setIfInBounds_toArray, List.set_cons_zero, List.set_cons_succ]
      refine wpAnyH_take (i := 3) (v := ?_) (List.getElem?_toArray.trans rfl) (by kernel_rfl) (by kernel_rfl) (by kernel_rfl) (fun _ _ _ h => h) (Or.inl ⟨by rfl, ?_⟩) (by assumption) ?_
      rotate_left
      · intro w' hw'
        try dsimp only at hw'
        skip
        go_simp
        try with_reducible rfl
      try simp only [Act.put, List.setIfInBounds_toArray, List.set_cons_zero, List.set_cons_succ]
      refine wpAnyH_take (i := 4) (v := ?_) (List.getElem?_toArray.trans rfl) (by kernel_rfl) (by kernel_rfl) (by kernel_rfl) (fun _ _ _ h => h) (Or.inl ⟨by rfl, ?_⟩) (by assumption) ?_
      rotate_left
      · intro w' hw'
        try dsimp only at hw'
        skip
        go_simp
        try with_reducible rfl
      try simp only [Act.put, List.setIfInBounds_toArray, List.set_cons_zero, List.set_cons_succ]
      refine wpAnyH_take (i := 5) (v := ?_) (List.getElem?_toArray.trans rfl) (by kernel_rfl) (by kernel_rfl) (by kernel_rfl) (fun _ _ _ h => h) (Or.inl ⟨by rfl, ?_⟩) (by assumption) ?_
      rotate_left
      · intro w' hw'
        try dsimp only at hw'
        skip
        go_simp
        try with_reducible rfl
      try simp only [Act.put, List.setIfInBounds_toArray, List.set_cons_zero, List.set_cons_succ]
      refine wpAnyH_take (i := 6) (v := ?_) (List.getElem?_toArray.trans rfl) (by kernel_rfl) (by kernel_rfl) (by kernel_rfl) (fun _ _ _ h => h) (Or.inl ⟨by rfl, ?_⟩) (by assumption) ?_
      rotate_left
      · intro w' hw'
        try dsimp only at hw'
        skip
        go_simp
        try with_reducible rfl
      try simp only [Act.put, List.setIfInBounds_toArray, List.set_cons_zero, List.set_cons_succ]
      refine wpAnyH_take (i := 7) (v := ?_) (List.getElem?_toArray.trans rfl) (by kernel_rfl) (by kernel_rfl) (by kernel_rfl) (fun _ _ _ h => h) (Or.inl ⟨by rfl, ?_⟩) (by assumption) ?_
      rotate_left
      · intro w' hw'
        try dsimp only at hw'
        skip
        go_simp
        try with_reducible rfl
      try simp only [Act.put, List.setIfInBounds_toArray, List.set_cons_zero, List.set_cons_succ]
      refine wpAnyH_take (i := 8) (v := ?_) (List.getElem?_toArray.trans rfl) (by kernel_rfl) (by kernel_rfl) (by kernel_rfl) (fun _ _ _ h => h) (Or.inl ⟨by rfl, ?_⟩) (by assumption) ?_
      rotate_left
      · intro w' hw'
        try dsimp only at hw'
        skip
        go_simp
        try with_reducible rfl
      try simp only [Act.put, List.setIfInBounds_toArray, List.set_cons_zero, List.set_cons_succ]
      refine wpAnyH_take (i := 9) (v := ?_) (List.getElem?_toArray.trans rfl) (by kernel_rfl) (by kernel_rfl) (by kernel_rfl) (fun _ _ _ h => h) (Or.inl ⟨by rfl, ?_⟩) (by assumption) ?_
      rotate_left
      · intro w' hw'
        try dsimp only at hw'
        skip
        go_simp
        try with_reducible rfl
      try simp only [Act.put, List.setIfInBounds_toArray, List.set_cons_zero, List.set_cons_succ]
      refine wpAnyH_take (i := 10) (v := ?_) (List.getElem?_toArray.trans rfl) (by kernel_rfl) (by kernel_rfl) (by kernel_rfl) (fun _ _ _ h => h) (Or.inl ⟨by rfl, ?_⟩) (by assumption) ?_
      rotate_left
      · intro w' hw'
        try dsimp only at hw'
        skip
        go_simp
        try with_reducible rfl
      try simp only [Act.put, List.setIfInBounds_toArray, List.set_cons_zero, List.set_cons_succ]
      refine wpAnyH_take (i := 11) (v := ?_) (List.getElem?_toArray.trans rfl) (by kernel_rfl) (by kernel_rfl) (by kernel_rfl) (fun _ _ _ h => h) (Or.inl ⟨by rfl, ?_⟩) (by assumption) ?_
      rotate_left
      · intro w' hw'
        try dsimp only at hw'
        skip
        go_simp
        try with_reducible rfl
      try simp only [Act.put, List.setIfInBounds_toArray, List.set_cons_zero, List.set_cons_succ]
      refine wpAnyH_take (i := 14) (v := ?_) (List.getElem?_toArray.trans rfl) (by kernel_rfl) (by kernel_rfl) (by kernel_rfl) (fun _ _ _ h => h) (Or.inl ⟨by rfl, ?_⟩) (by assumption) ?_
      rotate_left
      · intro w' hw'
        try dsimp only at hw'
        skip
        go_simp
        try with_reducible rfl
      try simp only [Act.put, List.setIfInBounds_toArray, List.set_cons_zero, List.set_cons_succ]
      refine wpAnyH_take (i := 15) (v := ?_) (List.getElem?_toArray.trans rfl) (by kernel_rfl) (by kernel_rfl) (by kernel_rfl) (fun _ _ _ h => h) (Or.inl ⟨by rfl, ?_⟩) (by assumption) ?_
      rotate_left
      · intro w' hw'
        try dsimp only at hw'
        skip
        go_simp
        try with_reducible rfl
      try simp only [Act.put, List.setIfInBounds_toArray, List.set_cons_zero, List.set_cons_succ]
      refine wpAnyH_take (i := 16) (v := ?_) (List.getElem?_toArray.trans rfl) (by kernel_rfl) (by kernel_rfl) (by kernel_rfl) (fun _ _ _ h => h) (Or.inl ⟨by rfl, ?_⟩) (by assumption) ?_
      rotate_left
      · intro w' hw'
        try dsimp only at hw'
        skip
        go_simp
        try with_reducible rfl
      try simp only [Act.put, List.setIfInBounds_toArray, List.set_cons_zero, List.set_cons_succ]
      refine wpAnyH_take (i := 17) (v := ?_) (List.getElem?_toArray.trans rfl) (by kernel_rfl) (by kernel_rfl) (by kernel_rfl) (fun _ _ _ h => h) (Or.inl ⟨by rfl, ?_⟩) (by assumption) ?_
      rotate_left
      · intro w' hw'
        try dsimp only at hw'
        have hcv := HCVB.out w' hw'
        go_simp
        try with_reducible rfl
      try simp only [Act.put, List.setIfInBounds_toArray, List.set_cons_zero, List.set_cons_succ]
      refine wpAnyH_ready (rs := [12]) (by kernel_rfl) (by simp) ?_
      refine AllReadyH.cons (List.getElem?_toArray.trans rfl) (fun K hK => ?_) AllReadyH.nil
      go_simp
      go_at_call 23
      refine (store_log_any _ gx f1 u1 O (HA1.out.ext (Touch.drew (Touch.refl _ w4))) (by omega)).mono ?_
      rintro e w5 ⟨A5, c5, rfl, ho5, hx5', _⟩
      have hx5 : Ext w4 w5 := (Touch.drew (Touch.refl _ w4)).trans hx5'
      have HO5 := Lib.hid (show Owns w5 5 (.slice A5 (logBytes O).length c5) (logBytes O) from ho5)
      have HX5 := Lib.hid hx5
      clear ho5 hx5'
      refine hK.out _ _ hx5 (fun _ => ?_)
      clear hK K
      try simp only [Act.put, List.setIfInBounds_toArray, List.set_cons_zero, List.set_cons_succ]
      refine wpAnyH_more (S' := fun w' => Ext w5 w') (fun w' h => hx5.trans h) _ _ _ _ ?_
      clear hx5 hHeld
      have hHeld : Ext w5 w5 := Touch.refl _ _
      refine wpAnyH_take (i := 13) (v := ?_) (List.getElem?_toArray.trans rfl) (by kernel_rfl) (by kernel_rfl) (by kernel_rfl) (fun _ _ _ h => h) (Or.inl ⟨by rfl, ?_⟩) (by assumption) ?_
      rotate_left
      · intro w' hw'
        try dsimp only at hw'
        have hcv := conv_log (HO5.out.ext hw')
        go_simp
        try with_reducible rfl
      try simp only [Act.put, List.setIfInBounds_toArray, List.set_cons_zero, List.set_cons_succ]
      refine wpAnyH_take (i := 18) (v := ?_) (List.getElem?_toArray.trans rfl) (by kernel_rfl) (by kernel_rfl) (by kernel_rfl) (fun _ _ _ h => h) (Or.inl ⟨by rfl, ?_⟩) (by assumption) ?_
      rotate_left
      · intro w' hw'
        try dsimp only at hw'
        skip
        go_simp
        try with_reducible rfl
      try simp only [Act.put, List.setIfInBounds_toArray, List.set_cons_zero, List.set_cons_succ]
      refine wpAnyH_take (i := 19) (v := ?_) (List.getElem?_toArray.trans rfl) (by kernel_rfl) (by kernel_rfl) (by kernel_rfl) (fun _ _ _ h => h) (Or.inl ⟨by rfl, ?_⟩) (by assumption) ?_
      rotate_left
      · intro w' hw'
        try dsimp only at hw'
        skip
        go_simp
        try with_reducible rfl
      try simp only [Act.put, List.setIfInBounds_toArray, List.set_cons_zero, List.set_cons_succ]
      refine wpAnyH_take (i := 20) (v := ?_) (List.getElem?_toArray.trans rfl) (by kernel_rfl) (by kernel_rfl) (by kernel_rfl) (fun _ _ _ h => h) (Or.inl ⟨by rfl, ?_⟩) (by assumption) ?_
      rotate_left
      · intro w' hw'
        try dsimp only at hw'
        skip
        go_simp
        try with_reducible rfl
      try simp only [Act.put, List.setIfInBounds_toArray, List.set_cons_zero, List.set_cons_succ]
      refine wpAnyH_take (i := 21) (v := ?_) (List.getElem?_toArray.trans rfl) (by kernel_rfl) (by kernel_rfl) (by kernel_rfl) (fun _ _ _ h => h) (Or.inl ⟨by rfl, ?_⟩) (by assumption) ?_
      rotate_left
      · intro w' hw'
        try dsimp only at hw'
        skip
        go_simp
        try with_reducible rfl
      try simp only [Act.put, List.setIfInBounds_toArray, List.set_cons_zero, List.set_cons_succ]
      refine wpAnyH_take (i := 22) (v := ?_) (List.getElem?_toArray.trans rfl) (by kernel_rfl) (by kernel_rfl) (by kernel_rfl) (fun _ _ _ h => h) (Or.inl ⟨by rfl, ?_⟩) (by assumption) ?_
      rotate_left
      · intro w' hw'
        try dsimp only at hw'
        skip
        go_simp
        try with_reducible rfl
      try simp only [Act.put, List.setIfInBounds_toArray, List.set_cons_zero, List.set_cons_succ]
      refine wpAnyH_take (i := 23) (v := ?_) (List.getElem?_toArray.trans rfl) (by kernel_rfl) (by kernel_rfl) (by kernel_rfl) (fun _ _ _ h => h) (Or.inl ⟨by rfl, ?_⟩) (by assumption) ?_
      rotate_left
      · intro w' hw'
        try dsimp only at hw'
        skip
        go_simp
        try with_reducible rfl
      try simp only [Act.put, List.setIfInBounds_toArray, List.set_cons_zero, List.set_cons_succ]
      refine wpAnyH_take (i := 24) (v := ?_) (List.getElem?_toArray.trans rfl) (by kernel_rfl) (by kernel_rfl) (by kernel_rfl) (fun _ _ _ h => h) (Or.inl ⟨by rfl, ?_⟩) (by assumption) ?_
      rotate_left
      · intro w' hw'
        try dsimp only at hw'
        have hcg := HG0.out w' (HX5.out.trans hw')
        go_simp
        try with_reducible rfl
      try simp only [Act.put, List.setIfInBounds_toArray, List.set_cons_zero, List.set_cons_succ]
      refine wpAnyH_take (i := 26) (v := ?_) (List.getElem?_toArray.trans rfl) (by kernel_rfl) (by kernel_rfl) (by kernel_rfl) (fun _ _ _ h => h) (Or.inl ⟨by rfl, ?_⟩) (by assumption) ?_
      rotate_left
      · intro w' hw'
        try dsimp only at hw'
        skip
        go_simp
        try with_reducible rfl
      try simp only [Act.put, List.setIfInBounds_toArray, List.set_cons_zero, List.set_cons_succ]
      refine wpAnyH_ready (rs := [25]) (by kernel_rfl) (by simp) ?_
      refine AllReadyH.cons (List.getElem?_toArray.trans rfl) (fun K hK => ?_) AllReadyH.nil
      go_simp
      go_at_call 17
      refine (files_names _ f1 v1 (fbehind O) (HH1.out.ext HX5.out) (by omega)).mono ?_
      rintro e w6 ⟨A6, c6, rfl, ho6, hx6, _⟩
      have HO6 := Lib.hid ho6
      have HX6 := Lib.hid (HX5.out.trans hx6)
      clear ho6
      refine hK.out _ _ hx6 (fun _ => ?_)
      clear hK K
      try simp only [Act.put, List.setIfInBounds_toArray, List.set_cons_zero, List.set_cons_succ]
      refine wpAnyH_more (S' := fun w' => Ext w6 w') (fun w' h => hx6.trans h) _ _ _ _ ?_
      clear hx6 hHeld
      have hHeld : Ext w6 w6 := Touch.refl _ _
      refine wpAnyH_ready (rs := [27]) (by kernel_rfl) (by simp) ?_
      refine AllReadyH.cons (List.getElem?_toArray.trans rfl) (fun K hK => ?_) AllReadyH.nil
      go_simp
      go_at_call 24
      refine (ref_behind w6 w6.heap.size _ _ _ O (HOL.out.ext HX6.out).reads (Nat.le_refl _) rfl HSR.out (by omega)).mono ?_
      rintro e w7 ⟨gd, rfl, hd7⟩
      have hx7 : Ext w6 w7 := hd7.ext
      have HX67 := Lib.hid hx7
      obtain ⟨Fd, ⟨vd, _, hhd⟩, _⟩ := hd7.ex
      obtain ⟨Ad, cd, rfl, _⟩ := hhd.own.form
      have HHD := Lib.hid hhd
      have HX7 := Lib.hid (HX6.out.trans hx7)
      clear hd7 hhd
      refine hK.out _ _ hx7 (fun _ => ?_)
      clear hK K
      try simp only [Act.put, List.setIfInBounds_toArray, List.set_cons_zero, List.set_cons_succ]
      refine wpAnyH_more (S' := fun w' => Ext w7 w') (fun w' h => hx7.trans h) _ _ _ _ ?_
      clear hx7 hHeld
      have hHeld : Ext w7 w7 := Touch.refl _ _
      refine wpAnyH_take (i := 28) (v := ?_) (List.getElem?_toArray.trans rfl) (by kernel_rfl) (by kernel_rfl) (by kernel_rfl) (fun _ _ _ h => h) (Or.inl ⟨by rfl, ?_⟩) (by assumption) ?_
      rotate_left
      · intro w' hw'
        try dsimp only at hw'
        skip
        go_simp
        try with_reducible rfl
      try simp only [Act.put, List.setIfInBounds_toArray, List.set_cons_zero, List.set_cons_succ]
      refine wpAnyH_take (i := 29) (v := ?_) (List.getElem?_toArray.trans rfl) (by kernel_rfl) (by kernel_rfl) (by kernel_rfl) (fun _ _ _ h => h) (Or.inl ⟨by rfl, ?_⟩) (by assumption) ?_
      rotate_left
      · intro w' hw'
        try dsimp only at hw'
        have hcd := (cell_of (HHD.out.ext hw').cell 0)
        go_simp
        try with_reducible rfl
      try simp only [Act.put, List.setIfInBounds_toArray, List.set_cons_zero, List.set_cons_succ]
      refine wpAnyH_ready (rs := [30]) (by kernel_rfl) (by simp) ?_
      refine AllReadyH.cons (List.getElem?_toArray.trans rfl) (fun K hK => ?_) AllReadyH.nil
      go_simp
      go_at_call 25
      refine (drawer_names_of w7 O _ HHD.out.own rfl).mono ?_
      rintro e w8 ⟨A8, c8, rfl, ho8, hx8, _⟩
      have HO8 := Lib.hid ho8
      have HO6' := Lib.hid ((HO6.out.ext (show Ext w6 w7 from HX67.out)).ext hx8)
      have HX8 := Lib.hid (HX7.out.trans hx8)
      clear ho8
      refine hK.out _ _ hx8 (fun _ => ?_)
      clear hK K
      try simp only [Act.put, List.setIfInBounds_toArray, List.set_cons_zero, List.set_cons_succ]
      refine wpAnyH_more (S' := fun w' => Ext w8 w') (fun w' h => hx8.trans h) _ _ _ _ ?_
      clear hx8 hHeld
      have hHeld : Ext w8 w8 := Touch.refl _ _
      refine wpAnyH_ready (rs := [31]) (by kernel_rfl) (by simp) ?_
      refine AllReadyH.cons (List.getElem?_toArray.trans rfl) (fun K hK => ?_) AllReadyH.nil
      go_simp
      go_at_call 16
      refine (texts_yes2 _ _ _ _ _ _ _ _ ((fbehind O).map (·.name)) HO6'.out.reads HO8.out.reads (by simp) (by simp) (by omega)).mono ?_
      rintro e w9 ⟨rfl, hx9⟩
      have HX9 := Lib.hid (HX8.out.trans hx9)
      refine hK.out _ _ hx9 (fun _ => ?_)
      clear hK K
      try simp only [Act.put, List.setIfInBounds_toArray, List.set_cons_zero, List.set_cons_succ]
      refine wpAnyH_more (S' := fun w' => Ext w9 w') (fun w' h => hx9.trans h) _ _ _ _ ?_
      clear hx9 hHeld
      have hHeld : Ext w9 w9 := Touch.refl _ _
      refine wpAnyH_take (i := 32) (v := ?_) (List.getElem?_toArray.trans rfl) (by kernel_rfl) (by kernel_rfl) (by kernel_rfl) (fun _ _ _ h => h) (Or.inl ⟨by rfl, ?_⟩) (by assumption) ?_
      rotate_left
      · intro w' hw'
        try dsimp only at hw'
        skip
        go_simp
        try with_reducible rfl
      try simp only [Act.put, List.setIfInBounds_toArray, List.set_cons_zero, List.set_cons_succ]
      refine wpAnyH_take (i := 33) (v := ?_) (List.getElem?_toArray.trans rfl) (by kernel_rfl) (by kernel_rfl) (by kernel_rfl) (fun _ _ _ h => h) (Or.inl ⟨by rfl, ?_⟩) (by assumption) ?_
      rotate_left
      · intro w' hw'
        try dsimp only at hw'
        skip
        go_simp
        try with_reducible rfl
      try simp only [Act.put, List.setIfInBounds_toArray, List.set_cons_zero, List.set_cons_succ]
      refine wpAnyH_done (by kernel_rfl) ?_ _
      have H9 := Lib.hid ((Has.none W).step (HEX4.out.trans HX9.out))
      clear HX9 HX8 HX7 HX6 HX5 HO8 HO6 HO6' HO5 HHD HG0 HOL HH1 HA1 HCVB HSR HEACH HPRE
      go_wp2_with fail
      refine (store_new w9).mono ?_
      rintro e w10 ⟨rfl, hn10, -⟩
      have H11 := Lib.hid (H9.out.both (both_start hn10))
      clear hn10 H9
      generalize w9.heap.size + 1 = gs at H11 ⊢
      go_wp2_with fail
      generalize w10.alloc (.cells #[.slice none 0 0] 58) = w11 at H11 ⊢
      generalize w10.heap.size = gr at H11 ⊢
      go_loopw [13] (fun i wr => DoesRel W gs gr l i wr) (fun i _ => l.length - (intOf i).toNat)
      case atStart => exact ⟨0, rfl, Nat.zero_le _, H11.out⟩
      case round =>
        clear H11
        obtain ⟨k, rfl, hk, hz⟩ := hrel
        have HZ := Lib.hid hz
        clear hz
        by_cases hlt : k < l.length
        · obtain ⟨s, hsx⟩ : ∃ s, l[k]? = some s := ⟨l[k], by simp [hlt]⟩
          obtain ⟨ad, rfl, hadb, hat⟩ := HR.out _ s hsx
          have hLV : ∀ w', Ext W w' → LV Try.prog 61 (ad.add (k * 8)) w' = .ok (.agg s.cells) w' := fun w' hw' => LV_StoreStep ((hat.of_same (w' := w') (by rw [show (ad.add (k * Lies.size StoreStep)).block = ad.block by unfold Addr.add; split <;> rfl]; exact hw'.block _ hadb id)))
          have HLV := Lib.hid hLV
          have HSX := Lib.hid hsx
          have HOK := Lib.hid (stepsL_ok LogOk.nil (l.take k))
          have HST := Lib.hid (HS.out s (List.mem_of_getElem? hsx))
          clear hsx hat hLV
          go_wp2_with fail
          refine wp_region_held_drew (S := fun w' => LV Try.prog 61 (ad.add (k * 8)) w' = .ok (.agg s.cells) w') (by kernel_rfl) (HLV.out _ (HZ.out.ext.trans (Touch.drew (Touch.refl _ wr)))) (fun hHeld => ?_)
          refine wpAnyH_take (i := 0) (v := ?_) (List.getElem?_toArray.trans rfl) (by kernel_rfl) (by kernel_rfl) (by kernel_rfl) (fun _ _ _ h => h) (Or.inl ⟨by rfl, ?_⟩) (by assumption) ?_
          rotate_left
          · intro w' hw'
            try dsimp only at hw'
            skip
            go_simp
            try with_reducible rfl
          try simp only [Act.put, List.setIfInBounds_toArray, List.set_cons_zero, List.set_cons_succ]
          refine wpAnyH_take (i := 1) (v := ?_) (List.getElem?_toArray.trans rfl) (by kernel_rfl) (by kernel_rfl) (by kernel_rfl) (fun _ _ _ h => h) (Or.inl ⟨by rfl, ?_⟩) (by assumption) ?_
          rotate_left
          · intro w' hw'
            try dsimp only at hw'
            skip
            go_simp
            try with_reducible rfl
          try simp only [Act.put, List.setIfInBounds_toArray, List.set_cons_zero, List.set_cons_succ]
          refine wpAnyH_take (i := 2) (v := ?_) (List.getElem?_toArray.trans rfl) (by kernel_rfl) (by kernel_rfl) (by kernel_rfl) (fun _ _ _ h => h) (Or.inl ⟨by rfl, ?_⟩) (by assumption) ?_
          rotate_left
          · intro w' hw'
            try dsimp only at hw'
            skip
            go_simp
            try with_reducible rfl
          try simp only [Act.put, List.setIfInBounds_toArray, List.set_cons_zero, List.set_cons_succ]
          refine wpAnyH_take (i := 3) (v := ?_) (List.getElem?_toArray.trans rfl) (by kernel_rfl) (by kernel_rfl) (by kernel_rfl) (fun _ _ _ h => h) (Or.inl ⟨by rfl, ?_⟩) (by assumption) ?_
          rotate_left
          · intro w' hw'
            try dsimp only at hw'
            skip
            go_simp
            try with_reducible rfl
          try simp only [Act.put, List.setIfInBounds_toArray, List.set_cons_zero, List.set_cons_succ]
          refine wpAnyH_take (i := 4) (v := ?_) (List.getElem?_toArray.trans rfl) (by kernel_rfl) (by kernel_rfl) (by kernel_rfl) (fun _ _ _ h => h) (Or.inl ⟨by rfl, ?_⟩) (by assumption) ?_
          rotate_left
          · intro w' hw'
            try dsimp only at hw'
            skip
            go_simp
            try with_reducible rfl
          try simp only [Act.put, List.setIfInBounds_toArray, List.set_cons_zero, List.set_cons_succ]
          refine wpAnyH_take (i := 5) (v := ?_) (List.getElem?_toArray.trans rfl) (by kernel_rfl) (by kernel_rfl) (by kernel_rfl) (fun _ _ _ h => h) (Or.inl ⟨by rfl, ?_⟩) (by assumption) ?_
          rotate_left
          · intro w' hw'
            try dsimp only at hw'
            skip
            go_simp
            try with_reducible rfl
          try simp only [Act.put, List.setIfInBounds_toArray, List.set_cons_zero, List.set_cons_succ]
          refine wpAnyH_ready (rs := [6]) (by kernel_rfl) (by simp) ?_
          refine AllReadyH.cons (List.getElem?_toArray.trans rfl) (fun K hK => ?_) AllReadyH.nil
          go_simp
          go_at_call 27
          obtain ⟨F1, hF1, hm1⟩ := (HZ.out.step (Touch.drew (Touch.refl _ wr))).snd
          refine (law_storeStep _ gs gr F1 _ s hF1 HOK.out HST.out).mono ?_
          rintro e w4 ⟨rfl, hq4⟩
          have h4 := hm1 _ _ hq4
          rw [← stepsL_take HSX.out] at h4
          have HOK4 := Lib.hid (stepsL_ok LogOk.nil (l.take (k + 1)))
          have HOE := Lib.hid (show stepsL [] (l.take (k + 1)) = stepsL [] (l.take (k + 1)) from rfl)
          obtain ⟨O, hO⟩ : ∃ O, stepsL [] (l.take (k + 1)) = O := ⟨_, rfl⟩
          rw [hO] at h4 HOK4
          have HO := Lib.hid hO
          have H4 := Lib.hid h4
          have hlog := HOK4.out.len
          have hlen := log_len HOK4.out.each
          have hfb6 := (fbehind_ok O).len
          have HSR := Lib.hid (show ∀ r ∈ O, StrCall r.call from fun r hr => recok_str (HOK4.out.each r hr))
          obtain ⟨F5, hF5, _⟩ := H4.out.b2
          obtain ⟨f1, u1, v1, hA1, hh1⟩ := store_parts hF5
          obtain ⟨F6, hF6, _⟩ := H4.out.snd
          obtain ⟨F7, ⟨v7, _, hh7⟩, _⟩ := Rep.snd hF6
          obtain ⟨A0, c0, rfl, _⟩ := hh7.own.form
          have HA1 := Lib.hid hA1
          have HH1 := Lib.hid hh1
          have HC7 := Lib.hid hh7
          have HOL := Lib.hid hh7.own
          have HG0 := Lib.hid (show ∀ w', Ext w4 w' → w'.cell? ⟨gs, 0, none⟩ = some (.pointer (some ⟨f1, 0, none⟩)) ∧ w'.cell? ⟨gr, 0, none⟩ = some (.slice A0 O.length c0) from fun w' hx => ⟨(cell_of (hx.blk HA1.out.cell id) 0).trans (StoreD.get0 _ _ _), cell_of (HC7.out.ext hx).cell 0⟩)
          have hself : ((mkStr (logBytes O)).toList == (mkStr (logBytes O)).toList) = true := by simp
          have hlv4 := HLV.out _ H4.out.ext
          clear hF1 hm1 hq4 h4 hO hF5 hA1 hh1 hF6 hh7 HOE
          refine hK.out _ _ hlv4 (fun _ => ?_)
          clear hK K
          try simp only [Act.put, List.setIfInBounds_toArray, List.set_cons_zero, List.set_cons_succ]
          refine wpAnyH_more (S' := fun w' => Ext w4 w') (fun w' h => HLV.out _ (H4.out.ext.trans h)) _ _ _ _ ?_
          clear hHeld hlv4
          have hHeld : Ext w4 w4 := Touch.refl _ _
          have HX4 := Lib.hid hHeld
          refine wpAnyH_take (i := 7) (v := ?_) (List.getElem?_toArray.trans rfl) (by kernel_rfl) (by kernel_rfl) (by kernel_rfl) (fun _ _ _ h => h) (Or.inl ⟨by rfl, ?_⟩) (by assumption) ?_
          rotate_left
          · intro w' hw'
            try dsimp only at hw'
            skip
            go_simp
            try with_reducible rfl
          try simp only [Act.put, List.setIfInBounds_toArray, List.set_cons_zero, List.set_cons_succ]
          refine wpAnyH_take (i := 8) (v := ?_) (List.getElem?_toArray.trans rfl) (by kernel_rfl) (by kernel_rfl) (by kernel_rfl) (fun _ _ _ h => h) (Or.inl ⟨by rfl, ?_⟩) (by assumption) ?_
          rotate_left
          · intro w' hw'
            try dsimp only at hw'
            skip
            go_simp
            try with_reducible rfl
          try simp only [Act.put, List.setIfInBounds_toArray, List.set_cons_zero, List.set_cons_succ]
          refine wpAnyH_take (i := 9) (v := ?_) (List.getElem?_toArray.trans rfl) (by kernel_rfl) (by kernel_rfl) (by kernel_rfl) (fun _ _ _ h => h) (Or.inl ⟨by rfl, ?_⟩) (by assumption) ?_
          rotate_left
          · intro w' hw'
            try dsimp only at hw'
            skip
            go_simp
            try with_reducible rfl
          try simp only [Act.put, List.setIfInBounds_toArray, List.set_cons_zero, List.set_cons_succ]
          refine wpAnyH_take (i := 12) (v := ?_) (List.getElem?_toArray.trans rfl) (by kernel_rfl) (by kernel_rfl) (by kernel_rfl) (fun _ _ _ h => h) (Or.inl ⟨by rfl, ?_⟩) (by assumption) ?_
          rotate_left
          · intro w' hw'
            try dsimp only at hw'
            skip
            go_simp
            try with_reducible rfl
          try simp only [Act.put, List.setIfInBounds_toArray, List.set_cons_zero, List.set_cons_succ]
          refine wpAnyH_ready (rs := [10]) (by kernel_rfl) (by simp) ?_
          refine AllReadyH.cons (List.getElem?_toArray.trans rfl) (fun K hK => ?_) AllReadyH.nil
          go_simp
          go_at_call 23
          refine (store_log_any w4 gs f1 u1 O HA1.out (by omega)).mono ?_
          rintro e w5 ⟨A5, c5, rfl, ho5, hx5, _⟩
          have HO5 := Lib.hid (show Owns w5 5 (.slice A5 (logBytes O).length c5) (logBytes O) from ho5)
          have HX5 := Lib.hid hx5
          clear ho5
          refine hK.out _ _ hx5 (fun _ => ?_)
          clear hK K
          try simp only [Act.put, List.setIfInBounds_toArray, List.set_cons_zero, List.set_cons_succ]
          refine wpAnyH_more (S' := fun w' => Ext w5 w') (fun w' h => hx5.trans h) _ _ _ _ ?_
          clear hx5 hHeld
          have hHeld : Ext w5 w5 := Touch.refl _ _
          refine wpAnyH_take (i := 11) (v := ?_) (List.getElem?_toArray.trans rfl) (by kernel_rfl) (by kernel_rfl) (by kernel_rfl) (fun _ _ _ h => h) (Or.inl ⟨by rfl, ?_⟩) (by assumption) ?_
          rotate_left
          · intro w' hw'
            try dsimp only at hw'
            have hcv := conv_log (HO5.out.ext hw')
            go_simp
            try with_reducible rfl
          try simp only [Act.put, List.setIfInBounds_toArray, List.set_cons_zero, List.set_cons_succ]
          refine wpAnyH_ready (rs := [13]) (by kernel_rfl) (by simp) ?_
          refine AllReadyH.cons (List.getElem?_toArray.trans rfl) (fun K hK => ?_) AllReadyH.nil
          go_simp
          go_at_call 28
          refine (chest_bytes w5 gr _ O (HC7.out.ext HX5.out) HOK4.out.each (by omega)).mono ?_
          rintro e w6 ⟨A6, c6, rfl, ho6, hx6, _⟩
          have HO6 := Lib.hid ho6
          have HX6 := Lib.hid (HX5.out.trans hx6)
          clear ho6
          refine hK.out _ _ hx6 (fun _ => ?_)
          clear hK K
          try simp only [Act.put, List.setIfInBounds_toArray, List.set_cons_zero, List.set_cons_succ]
          refine wpAnyH_more (S' := fun w' => Ext w6 w') (fun w' h => hx6.trans h) _ _ _ _ ?_
          clear hx6 hHeld
          have hHeld : Ext w6 w6 := Touch.refl _ _
          refine wpAnyH_take (i := 14) (v := ?_) (List.getElem?_toArray.trans rfl) (by kernel_rfl) (by kernel_rfl) (by kernel_rfl) (fun _ _ _ h => h) (Or.inl ⟨by rfl, ?_⟩) (by assumption) ?_
          rotate_left
          · intro w' hw'
            try dsimp only at hw'
            have hcv := conv_log (HO6.out.ext hw')
            go_simp
            try with_reducible rfl
          try simp only [Act.put, List.setIfInBounds_toArray, List.set_cons_zero, List.set_cons_succ]
          refine wpAnyH_take (i := 15) (v := ?_) (List.getElem?_toArray.trans rfl) (by kernel_rfl) (by kernel_rfl) (by kernel_rfl) (fun _ _ _ h => h) (Or.inl ⟨by rfl, ?_⟩) (by assumption) ?_
          rotate_left
          · intro w' hw'
            try dsimp only at hw'
            skip
            go_simp
            try with_reducible rfl
          try simp only [Act.put, List.setIfInBounds_toArray, List.set_cons_zero, List.set_cons_succ]
          refine wpAnyH_take (i := 16) (v := ?_) (List.getElem?_toArray.trans rfl) (by kernel_rfl) (by kernel_rfl) (by kernel_rfl) (fun _ _ _ h => h) (Or.inl ⟨by rfl, ?_⟩) (by assumption) ?_
          rotate_left
          · intro w' hw'
            try dsimp only at hw'
            skip
            go_simp
            try with_reducible rfl
          try simp only [Act.put, List.setIfInBounds_toArray, List.set_cons_zero, List.set_cons_succ]
          refine wpAnyH_take (i := 17) (v := ?_) (List.getElem?_toArray.trans rfl) (by kernel_rfl) (by kernel_rfl) (by kernel_rfl) (fun _ _ _ h => h) (Or.inl ⟨by rfl, ?_⟩) (by assumption) ?_
          rotate_left
          · intro w' hw'
            try dsimp only at hw'
            skip
            go_simp
            try with_reducible rfl
          try simp only [Act.put, List.setIfInBounds_toArray, List.set_cons_zero, List.set_cons_succ]
          refine wpAnyH_take (i := 18) (v := ?_) (List.getElem?_toArray.trans rfl) (by kernel_rfl) (by kernel_rfl) (by kernel_rfl) (fun _ _ _ h => h) (Or.inl ⟨by rfl, ?_⟩) (by assumption) ?_
          rotate_left
          · intro w' hw'
            try dsimp only at hw'
            skip
            go_simp
            try with_reducible rfl
          try simp only [Act.put, List.setIfInBounds_toArray, List.set_cons_zero, List.set_cons_succ]
          refine wpAnyH_take (i := 19) (v := ?_) (List.getElem?_toArray.trans rfl) (by kernel_rfl) (by kernel_rfl) (by kernel_rfl) (fun _ _ _ h => h) (Or.inl ⟨by rfl, ?_⟩) (by assumption) ?_
          rotate_left
          · intro w' hw'
            try dsimp only at hw'
            skip
            go_simp
            try with_reducible rfl
          try simp only [Act.put, List.setIfInBounds_toArray, List.set_cons_zero, List.set_cons_succ]
          refine wpAnyH_take (i := 20) (v := ?_) (List.getElem?_toArray.trans rfl) (by kernel_rfl) (by kernel_rfl) (by kernel_rfl) (fun _ _ _ h => h) (Or.inl ⟨by rfl, ?_⟩) (by assumption) ?_
          rotate_left
          · intro w' hw'
            try dsimp only at hw'
            skip
            go_simp
            try with_reducible rfl
          try simp only [Act.put, List.setIfInBounds_toArray, List.set_cons_zero, List.set_cons_succ]
          refine wpAnyH_take (i := 21) (v := ?_) (List.getElem?_toArray.trans rfl) (by kernel_rfl) (by kernel_rfl) (by kernel_rfl) (fun _ _ _ h => h) (Or.inl ⟨by rfl, ?_⟩) (by assumption) ?_
          rotate_left
          · intro w' hw'
            try dsimp only at hw'
            obtain ⟨hcg, hcr⟩ := HG0.out w' (HX6.out.trans hw')
            go_simp
            try with_reducible rfl
          try simp only [Act.put, List.setIfInBounds_toArray, List.set_cons_zero, List.set_cons_succ]
          refine wpAnyH_take (i := 23) (v := ?_) (List.getElem?_toArray.trans rfl) (by kernel_rfl) (by kernel_rfl) (by kernel_rfl) (fun _ _ _ h => h) (Or.inl ⟨by rfl, ?_⟩) (by assumption) ?_
          rotate_left
          · intro w' hw'
            try dsimp only at hw'
            skip
            go_simp
            try with_reducible rfl
          try simp only [Act.put, List.setIfInBounds_toArray, List.set_cons_zero, List.set_cons_succ]
          refine wpAnyH_take (i := 24) (v := ?_) (List.getElem?_toArray.trans rfl) (by kernel_rfl) (by kernel_rfl) (by kernel_rfl) (fun _ _ _ h => h) (Or.inl ⟨by rfl, ?_⟩) (by assumption) ?_
          rotate_left
          · intro w' hw'
            try dsimp only at hw'
            skip
            go_simp
            try with_reducible rfl
          try simp only [Act.put, List.setIfInBounds_toArray, List.set_cons_zero, List.set_cons_succ]
          refine wpAnyH_take (i := 25) (v := ?_) (List.getElem?_toArray.trans rfl) (by kernel_rfl) (by kernel_rfl) (by kernel_rfl) (fun _ _ _ h => h) (Or.inl ⟨by rfl, ?_⟩) (by assumption) ?_
          rotate_left
          · intro w' hw'
            try dsimp only at hw'
            skip
            go_simp
            try with_reducible rfl
          try simp only [Act.put, List.setIfInBounds_toArray, List.set_cons_zero, List.set_cons_succ]
          refine wpAnyH_take (i := 26) (v := ?_) (List.getElem?_toArray.trans rfl) (by kernel_rfl) (by kernel_rfl) (by kernel_rfl) (fun _ _ _ h => h) (Or.inl ⟨by rfl, ?_⟩) (by assumption) ?_
          rotate_left
          · intro w' hw'
            try dsimp only at hw'
            obtain ⟨hcg, hcr⟩ := HG0.out w' (HX6.out.trans hw')
            go_simp
            try with_reducible rfl
          try simp only [Act.put, List.setIfInBounds_toArray, List.set_cons_zero, List.set_cons_succ]
          refine wpAnyH_ready (rs := [22]) (by kernel_rfl) (by simp) ?_
          refine AllReadyH.cons (List.getElem?_toArray.trans rfl) (fun K hK => ?_) AllReadyH.nil
          go_simp
          go_at_call 17
          refine (files_names _ f1 v1 (fbehind O) (HH1.out.ext HX6.out) (by omega)).mono ?_
          rintro e w7 ⟨A7, c7, rfl, ho7, hx7, _⟩
          have HO7 := Lib.hid ho7
          have HX7 := Lib.hid (HX6.out.trans hx7)
          clear ho7
          refine hK.out _ _ hx7 (fun _ => ?_)
          clear hK K
          try simp only [Act.put, List.setIfInBounds_toArray, List.set_cons_zero, List.set_cons_succ]
          refine wpAnyH_more (S' := fun w' => Ext w7 w') (fun w' h => hx7.trans h) _ _ _ _ ?_
          clear hx7 hHeld
          have hHeld : Ext w7 w7 := Touch.refl _ _
          refine wpAnyH_ready (rs := [27]) (by kernel_rfl) (by simp) ?_
          refine AllReadyH.cons (List.getElem?_toArray.trans rfl) (fun K hK => ?_) AllReadyH.nil
          go_simp
          go_at_call 24
          refine (ref_behind w7 w7.heap.size _ _ _ O (HOL.out.ext HX7.out).reads (Nat.le_refl _) rfl HSR.out (by omega)).mono ?_
          rintro e w8 ⟨gd, rfl, hd8⟩
          have hx8 : Ext w7 w8 := hd8.ext
          have HX78 := Lib.hid hx8
          obtain ⟨Fd, ⟨vd, _, hhd⟩, _⟩ := hd8.ex
          obtain ⟨Ad, cd, rfl, _⟩ := hhd.own.form
          have HHD := Lib.hid hhd
          have HX8 := Lib.hid (HX7.out.trans hx8)
          clear hd8 hhd
          refine hK.out _ _ hx8 (fun _ => ?_)
          clear hK K
          try simp only [Act.put, List.setIfInBounds_toArray, List.set_cons_zero, List.set_cons_succ]
          refine wpAnyH_more (S' := fun w' => Ext w8 w') (fun w' h => hx8.trans h) _ _ _ _ ?_
          clear hx8 hHeld
          have hHeld : Ext w8 w8 := Touch.refl _ _
          refine wpAnyH_take (i := 28) (v := ?_) (List.getElem?_toArray.trans rfl) (by kernel_rfl) (by kernel_rfl) (by kernel_rfl) (fun _ _ _ h => h) (Or.inl ⟨by rfl, ?_⟩) (by assumption) ?_
          rotate_left
          · intro w' hw'
            try dsimp only at hw'
            skip
            go_simp
            try with_reducible rfl
          try simp only [Act.put, List.setIfInBounds_toArray, List.set_cons_zero, List.set_cons_succ]
          refine wpAnyH_take (i := 29) (v := ?_) (List.getElem?_toArray.trans rfl) (by kernel_rfl) (by kernel_rfl) (by kernel_rfl) (fun _ _ _ h => h) (Or.inl ⟨by rfl, ?_⟩) (by assumption) ?_
          rotate_left
          · intro w' hw'
            try dsimp only at hw'
            have hcd := (cell_of (HHD.out.ext hw').cell 0)
            go_simp
            try with_reducible rfl
          try simp only [Act.put, List.setIfInBounds_toArray, List.set_cons_zero, List.set_cons_succ]
          refine wpAnyH_ready (rs := [30]) (by kernel_rfl) (by simp) ?_
          refine AllReadyH.cons (List.getElem?_toArray.trans rfl) (fun K hK => ?_) AllReadyH.nil
          go_simp
          go_at_call 25
          refine (drawer_names_of w8 O _ HHD.out.own rfl).mono ?_
          rintro e w9 ⟨A9, c9, rfl, ho9, hx9, _⟩
          have HO9 := Lib.hid ho9
          have HO7' := Lib.hid ((HO7.out.ext HX78.out).ext hx9)
          have HX9 := Lib.hid (HX8.out.trans hx9)
          clear ho9
          refine hK.out _ _ hx9 (fun _ => ?_)
          clear hK K
          try simp only [Act.put, List.setIfInBounds_toArray, List.set_cons_zero, List.set_cons_succ]
          refine wpAnyH_more (S' := fun w' => Ext w9 w') (fun w' h => hx9.trans h) _ _ _ _ ?_
          clear hx9 hHeld
          have hHeld : Ext w9 w9 := Touch.refl _ _
          refine wpAnyH_ready (rs := [31]) (by kernel_rfl) (by simp) ?_
          refine AllReadyH.cons (List.getElem?_toArray.trans rfl) (fun K hK => ?_) AllReadyH.nil
          go_simp
          go_at_call 16
          refine (texts_yes2 _ _ _ _ _ _ _ _ ((fbehind O).map (·.name)) HO7'.out.reads HO9.out.reads (by simp) (by simp) (by omega)).mono ?_
          rintro e w10 ⟨rfl, hx10⟩
          have HX10 := Lib.hid (HX9.out.trans hx10)
          refine hK.out _ _ hx10 (fun _ => ?_)
          clear hK K
          try simp only [Act.put, List.setIfInBounds_toArray, List.set_cons_zero, List.set_cons_succ]
          refine wpAnyH_more (S' := fun w' => Ext w10 w') (fun w' h => hx10.trans h) _ _ _ _ ?_
          clear hx10 hHeld
          have hHeld : Ext w10 w10 := Touch.refl _ _
          refine wpAnyH_take (i := 32) (v := ?_) (List.getElem?_toArray.trans rfl) (by kernel_rfl) (by kernel_rfl) (by kernel_rfl) (fun _ _ _ h => h) (Or.inl ⟨by rfl, ?_⟩) (by assumption) ?_
          rotate_left
          · intro w' hw'
            try dsimp only at hw'
            skip
            go_simp
            try with_reducible rfl
          try simp only [Act.put, List.setIfInBounds_toArray, List.set_cons_zero, List.set_cons_succ]
          refine wpAnyH_take (i := 33) (v := ?_) (List.getElem?_toArray.trans rfl) (by kernel_rfl) (by kernel_rfl) (by kernel_rfl) (fun _ _ _ h => h) (Or.inl ⟨by rfl, ?_⟩) (by assumption) ?_
          rotate_left
          · intro w' hw'
            try dsimp only at hw'
            skip
            go_simp
            try with_reducible rfl
          try simp only [Act.put, List.setIfInBounds_toArray, List.set_cons_zero, List.set_cons_succ]
          refine wpAnyH_done (by kernel_rfl) ?_ _
          have H10 := Lib.hid (H4.out.step HX10.out)
          go_wp2
          go_roundw
          case rel => exact ⟨k + 1, by go_num, by omega, by rw [HO.out]; exact H10.out⟩
          case measure => simp [intOf]; omega
        · obtain rfl : k = l.length := by omega
          have HOK := Lib.hid (stepsL_ok LogOk.nil (l.take l.length))
          generalize stepsL [] (l.take l.length) = L at HZ HOK
          have hll := log_len HOK.out.each
          have hlog := HOK.out.len
          obtain ⟨F6, hF6, _⟩ := HZ.out.snd
          obtain ⟨F7, ⟨v7, _, hh7⟩, _⟩ := Rep.snd hF6
          have HC7 := Lib.hid hh7
          clear hF6 hh7
          go_wp2_with fail
          refine (chest_last_at wr gr v7 L client HC7.out (by omega)).mono ?_
          rintro e w12 ⟨rfl, hx12⟩
          have H12 := Lib.hid (HZ.out.step (hx12.alloc (.cells (lastRec L client).cells 49)))
          clear hx12 HZ
          cases hlo : lastOf L client with
          | none =>
            have HN := Lib.hid (show lastNo L client = 0 by unfold lastNo; rw [hlo])
            clear hlo
            go_wp2_with fail
            obtain ⟨F8, hF8, _⟩ := H12.out.b2
            refine (store_last_of _ gs F8 L hF8 HOK.out client).mono ?_
            rintro e w13 ⟨rfl, rfl⟩
            rw [HN.out]
            go_wp2
            go_ret
            exact ⟨by first | rfl | simp, H12.out.ext⟩
          | some r =>
            have HN := Lib.hid (show lastNo L client = (lastRec L client).no by unfold lastNo lastRec; rw [hlo])
            clear hlo
            go_wp2_with fail
            obtain ⟨F8, hF8, _⟩ := H12.out.b2
            refine (store_last_of _ gs F8 L hF8 HOK.out client).mono ?_
            rintro e w13 ⟨rfl, rfl⟩
            rw [HN.out]
            go_wp2
            go_ret
            exact ⟨by first | rfl | simp, H12.out.ext⟩
end Go.Proofs.Ytalfbhhldfffkab
