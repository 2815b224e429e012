/- FilesDoes: the walk of the law. -/
import Derived.Test.YtalfbhhldfffkaaFilesApart
import Derived.Test.YtalfbhhldfffkaaDrawerC7
namespace Go.Proofs.Ytalfbhhldfffkaa
open Go.RowKit

def ddos (d : List FileD) (cs : List Call) : List FileD := cs.foldl (fun d c => (ddo d c).2) d
theorem ddos_take {d : List FileD} {cs : List Call} {k : Nat} {c : Call} (h : cs[k]? = some c) : ddos d (cs.take (k + 1)) = (ddo (ddos d (cs.take k)) c).2 := by
  unfold ddos
  rw [List.take_add_one, h]
  simp
theorem fdos_srt {l d : List FileD} (h : Srt l d) (cs : List Call) : Srt (fdos l cs) (ddos d cs) := by
  unfold fdos ddos
  induction cs generalizing l d with
  | nil => exact h
  | cons c cs ih => exact ih (fdo_ddo h c).2
theorem drawer_do' (w : World) (g : Nat) (F : Nat → Prop) (d : List FileD) (x : Call) {a : Answer} {d' : List FileD} (h : (repHolds g 86 124).on w F d) (hok : DOk d) (hst : StrCall x) (hd : ddo d x = (a, d')) :
    Calls Try.prog 53 #[.pointer (some ⟨g, 0, none⟩), .agg x.cells] w fun e w' => e = .returned (.agg a.cells) ∧ Moved (repHolds g 86 124) w F d' w' :=
  (drawer_do w g F d x h hok hst).mono fun e w' ⟨he, hm⟩ => by rw [hd] at he hm; exact ⟨he, hm⟩
theorem drawer_names' (w : World) (A : Option Addr) (c n : Nat) (d : List FileD) (N : List ByteArray) (hr : Reads w w.heap.size A d) (hl : d.length ≤ 1000) (hn : n = d.length) (hN : dNames d = N) :
    Calls Try.prog 56 #[.slice A n c] w (NewList w 9 N) := by
  subst hn
  subst hN
  exact drawer_names w A c d hr hl
theorem files_names' (w : World) (g : Nat) (v : Value) (l : List FileD) (N : List ByteArray) (h : Holds w g 113 120 v l) (hl : l.length ≤ 1000) (hN : l.map (·.name) = N) :
    Calls Try.prog 55 #[.pointer (some ⟨g, 0, none⟩)] w (NewList w 9 N) := by
  subst hN
  exact files_names w g v l h hl
theorem drawer_begin {Y : Type} {S : Rep Y} {W w : World} {y : Y} (h : Has S W w y) :
    Has (S.and (repHolds (w.heap.size + 1) 86 124)) W ((w.alloc (.cells #[] 124)).alloc (.cells #[.slice (some ⟨w.heap.size, 0, none⟩) 0 0] 86)) (y, ([] : List FileD)) := by
  refine h.beside (G := foot (w.heap.size + 1) (.slice (some ⟨w.heap.size, 0, none⟩) 0 0)) (((Touch.refl _ w).alloc _).alloc _) ⟨_, fun _ => Iff.rfl, ⟨?_, ?_⟩⟩ (fun k hk => ?_)
  · exact heap_alloc_at _ _ _ (by simp)
  · exact own_empty ((Below.heap_alloc _ _ _ (by simp)).trans (heap_alloc_new _ _))
  · rcases hk with rfl | hk
    · omega
    · simp [Value.ownBlock] at hk; omega
abbrev FD (g gd : Nat) : Rep ((Unit × List FileD) × List FileD) := (repNone.and (repHolds g 113 120)).and (repHolds gd 86 124)
def FDRel (W : World) (g gd : Nat) (l : List Call) (i : Value) (wr : World) : Prop :=
  ∃ k : Nat, i = .int .i64 k ∧ k ≤ l.length ∧ Has (FD g gd) W wr (((), fdos [] (l.take k)), ddos [] (l.take k))
theorem ref_isname' (w : World) (s : ByteArray) (b : Bool) (h : okText 97 122 5 s = b) (hs : s.size ≤ 140737488351232) :
    Calls Try.prog 60 #[.string s] w fun e w' => e = .returned (.bool b) ∧ w' = w := by
  subst h
  exact ref_isname w s hs

theorem wpAnyH_more {P : Program} {ops : Array Oper} {Q : Exit → Act → World → Prop} {md : Region.Mode} {S S' : World → Prop} (hS : ∀ w, S' w → S w) :
    ∀ (fuel : Nat) (listed : Array Bool) (a : Act) (w : World), wpAnyH P md ops Q S' fuel listed a w → wpAnyH P md ops Q S fuel listed a w
  | 0, _, _, _, h => h
  | fuel + 1, _, _, _, h => ⟨h.1, fun i hi => wpOp_mono (fun a' w' h' => ⟨hS w' h'.1, wpAnyH_more hS fuel _ a' w' h'.2⟩) (h.2 i hi)⟩


set_option maxHeartbeats 4000000 in
set_option maxRecDepth 100000 in
theorem filesDoes (W : World) (A : Option Addr) (c : Nat) (l : List Call) (kind : Int) (nm : ByteArray) (hr : Reads W W.heap.size A l) (hs : ∀ x ∈ l, StrCall x) (hl : l.length ≤ 140737488351232) (hnm : nm.size ≤ 140737488351232) :
    Calls Try.prog 12 #[.slice A l.length c, .int .i64 kind, .string nm] W fun e w' => e = .returned (.bool true) ∧ Ext W w' := by
  have HR := Lib.hid hr
  have HS := Lib.hid hs
  clear hr hs
  go_enter Try.func12, Try.ntmps12
  go_wp2_with fail
  refine (files_begun _).mono ?_
  rintro e w1 ⟨rfl, hx1⟩
  have H1 := Lib.hid ((Has.none W).step hx1)
  clear hx1
  go_wp2_with fail
  refine (law_greatCalls w1 A c l (HR.out.ext H1.out.ext) HS.out hl).mono ?_
  rintro e w2 ⟨b2, rfl, hb2, hx2⟩
  have H2 := Lib.hid (H1.out.step hx2)
  have HB2 := Lib.hid hb2
  clear hx2 hb2 H1
  cases b2 with
  | true =>
    go_wp2
    go_ret
    exact ⟨rfl, H2.out.ext⟩
  | false =>
    by_cases hbig : (300 : Int) < (nm.size : Int)
    · go_wp2
      go_ret
      exact ⟨by first | rfl | simp [hbig], H2.out.ext⟩
    · obtain ⟨hl150, hshort⟩ := HB2.out rfl
      clear hshort HB2
      go_wp2_with fail
      refine (files_new w2).mono ?_
      rintro e w3 ⟨rfl, rfl⟩
      go_wp2_with fail
      have h4 := drawer_begin (files_begin H2.out)
      rw [World.size_alloc] at h4
      have H4 := Lib.hid h4
      clear h4
      change Code.wp Try.prog _ _ _ (((w2.alloc (.cells #[.slice none 0 0] 113)).alloc (.cells #[] 124)).alloc (.cells #[.slice (some ⟨w2.heap.size + 1, 0, none⟩) 0 0] 86))
      generalize ((w2.alloc (.cells #[.slice none 0 0] 113)).alloc (.cells #[] 124)).alloc (.cells #[.slice (some ⟨w2.heap.size + 1, 0, none⟩) 0 0] 86) = w4 at H4 ⊢
      generalize w2.heap.size + 1 + 1 = gd at H4 ⊢
      generalize (⟨w2.heap.size + 1, 0, none⟩ : Addr) = adE at H4 ⊢
      generalize w2.heap.size = g at H4 ⊢
      clear H2
      go_loopw [9] (fun i wr => FDRel W g gd l i wr) (fun i _ => l.length - (intOf i).toNat)
      case atStart => exact ⟨0, rfl, Nat.zero_le _, H4.out⟩
      case round =>
        clear H4
        obtain ⟨k, rfl, hk, hz⟩ := hrel
        have HZ := Lib.hid hz
        clear hz
        by_cases hlt : k < l.length
        · obtain ⟨x, hx⟩ : ∃ x, l[k]? = some x := ⟨l[k], by simp [hlt]⟩
          obtain ⟨ad, rfl, hadb, hat⟩ := HR.out _ x hx
          have hLV : ∀ w', Ext W w' → LV Try.prog 29 (ad.add (k * 4)) w' = .ok (.agg x.cells) w' := fun w' hw' => LV_Call ((hat.of_same (w' := w') (by rw [show (ad.add (k * Lies.size Call)).block = ad.block by unfold Addr.add; split <;> rfl]; exact hw'.block _ hadb id)))
          have HLV := Lib.hid hLV
          have HST := Lib.hid (HS.out x (List.mem_of_getElem? hx))
          have hsrt : Srt (fdos [] (l.take k)) (ddos [] (l.take k)) := fdos_srt ⟨List.Pairwise.nil, .refl _⟩ _
          have hfok : FOk (fdos [] (l.take k)) := fdos_ok FOk.nil _
          obtain ⟨e1, hsrt'⟩ := fdo_ddo hsrt x
          have hfok' := fdo_ok hfok x
          have h5 := fdos_take (l := []) hx
          have h6 := ddos_take (d := []) hx
          generalize fdos [] (l.take k) = L at HZ hsrt hfok e1 hsrt' hfok' h5
          generalize ddos [] (l.take k) = D at HZ hsrt e1 hsrt' h6
          obtain ⟨a, hfa⟩ : ∃ a, (fdo L x).1 = a := ⟨_, rfl⟩
          obtain ⟨L', hfl⟩ : ∃ L', (fdo L x).2 = L' := ⟨_, rfl⟩
          obtain ⟨D', hdl⟩ : ∃ D', (ddo D x).2 = D' := ⟨_, rfl⟩
          rw [hfa] at e1
          rw [hfl] at hsrt' hfok' h5
          rw [hdl] at hsrt' h6
          have HFD := Lib.hid (show fdo L x = (a, L') from Prod.ext hfa hfl)
          have HDD := Lib.hid (show ddo D x = (a, D') from Prod.ext e1.symm hdl)
          have HFO := Lib.hid hfok
          have HDO := Lib.hid (hsrt.dok hfok)
          have HDO' := Lib.hid (hsrt'.dok hfok')
          have hL6 := Lib.hid hfok'.len
          have HNM := Lib.hid hsrt'.names
          have HL5 := Lib.hid h5
          have HL6 := Lib.hid h6
          obtain ⟨n, hn⟩ : ∃ n, callCode x = n := ⟨_, rfl⟩
          have HN := Lib.hid hn
          obtain ⟨N, hNN⟩ : ∃ N, L'.map (·.name) = N := ⟨_, rfl⟩
          have hNl : N.length ≤ 6 := by rw [← hNN, List.length_map]; exact hfok'.len
          have HNN := Lib.hid hNN
          have HNL := Lib.hid hNl
          have HND := Lib.hid (hsrt'.names.trans hNN)
          clear hx hat hLV hsrt hsrt' hfok hfok' e1 hfa hfl hdl h5 h6 hn hNN hNl
          go_wp2_with fail
          have hlv0 := HLV.out _ (HZ.out.step (Touch.drew (Touch.refl _ wr))).ext
          refine wp_region_held_drew (S := fun w' => LV Try.prog 29 (ad.add (k * 4)) w' = .ok (.agg x.cells) w') (by kernel_rfl) hlv0 (fun hHeld => ?_)
          refine wpAnyH_take (i := 0) (v := ?_) (List.getElem?_toArray.trans rfl) (by kernel_rfl) (by kernel_rfl) (by kernel_rfl) (fun _ _ _ h => h) (Or.inl ⟨by rfl, ?_⟩) (by assumption) ?_
          rotate_left
          · intro w hSw
            try dsimp only at hSw
            go_simp
            try with_reducible rfl
          try simp only [Act.put, List.setIfInBounds_toArray, List.set_cons_zero, List.set_cons_succ]
          refine wpAnyH_take (i := 1) (v := ?_) (List.getElem?_toArray.trans rfl) (by kernel_rfl) (by kernel_rfl) (by kernel_rfl) (fun _ _ _ h => h) (Or.inl ⟨by rfl, ?_⟩) (by assumption) ?_
          rotate_left
          · intro w hSw
            try dsimp only at hSw
            go_simp
            try with_reducible rfl
          try simp only [Act.put, List.setIfInBounds_toArray, List.set_cons_zero, List.set_cons_succ]
          refine wpAnyH_take (i := 2) (v := ?_) (List.getElem?_toArray.trans rfl) (by kernel_rfl) (by kernel_rfl) (by kernel_rfl) (fun _ _ _ h => h) (Or.inl ⟨by rfl, ?_⟩) (by assumption) ?_
          rotate_left
          · intro w hSw
            try dsimp only at hSw
            go_simp
            try with_reducible rfl
          try simp only [Act.put, List.setIfInBounds_toArray, List.set_cons_zero, List.set_cons_succ]
          refine wpAnyH_take (i := 3) (v := ?_) (List.getElem?_toArray.trans rfl) (by kernel_rfl) (by kernel_rfl) (by kernel_rfl) (fun _ _ _ h => h) (Or.inl ⟨by rfl, ?_⟩) (by assumption) ?_
          rotate_left
          · intro w hSw
            try dsimp only at hSw
            go_simp
            try with_reducible rfl
          try simp only [Act.put, List.setIfInBounds_toArray, List.set_cons_zero, List.set_cons_succ]
          refine wpAnyH_take (i := 5) (v := ?_) (List.getElem?_toArray.trans rfl) (by kernel_rfl) (by kernel_rfl) (by kernel_rfl) (fun _ _ _ h => h) (Or.inl ⟨by rfl, ?_⟩) (by assumption) ?_
          rotate_left
          · intro w hSw
            try dsimp only at hSw
            go_simp
            try with_reducible rfl
          try simp only [Act.put, List.setIfInBounds_toArray, List.set_cons_zero, List.set_cons_succ]
          refine wpAnyH_take (i := 6) (v := ?_) (List.getElem?_toArray.trans rfl) (by kernel_rfl) (by kernel_rfl) (by kernel_rfl) (fun _ _ _ h => h) (Or.inl ⟨by rfl, ?_⟩) (by assumption) ?_
          rotate_left
          · intro w hSw
            try dsimp only at hSw
            go_simp
            try with_reducible rfl
          try simp only [Act.put, List.setIfInBounds_toArray, List.set_cons_zero, List.set_cons_succ]
          refine wpAnyH_take (i := 7) (v := ?_) (List.getElem?_toArray.trans rfl) (by kernel_rfl) (by kernel_rfl) (by kernel_rfl) (fun _ _ _ h => h) (Or.inl ⟨by rfl, ?_⟩) (by assumption) ?_
          rotate_left
          · intro w hSw
            try dsimp only at hSw
            go_simp
            try with_reducible rfl
          try simp only [Act.put, List.setIfInBounds_toArray, List.set_cons_zero, List.set_cons_succ]
          refine wpAnyH_take (i := 8) (v := ?_) (List.getElem?_toArray.trans rfl) (by kernel_rfl) (by kernel_rfl) (by kernel_rfl) (fun _ _ _ h => h) (Or.inl ⟨by rfl, ?_⟩) (by assumption) ?_
          rotate_left
          · intro w hSw
            try dsimp only at hSw
            go_simp
            try with_reducible rfl
          try simp only [Act.put, List.setIfInBounds_toArray, List.set_cons_zero, List.set_cons_succ]
          refine wpAnyH_ready (rs := [4]) (by kernel_rfl) (by simp) ?_
          refine AllReadyH.cons (List.getElem?_toArray.trans rfl) (fun K hK => ?_) AllReadyH.nil
          go_simp
          go_at_call 50
          refine (files_check' _ x n HN.out HST.out).mono ?_
          rintro e w1 ⟨rfl, hx1⟩
          have H1 := Lib.hid ((HZ.out.step (Touch.drew (Touch.refl _ wr))).step hx1)
          have hlv1 := HLV.out _ H1.out.ext
          clear hx1
          refine hK.out _ _ hlv1 (fun hHeld => ?_)
          clear hK K
          try simp only [Act.put, List.setIfInBounds_toArray, List.set_cons_zero, List.set_cons_succ]
          refine wpAnyH_ready (rs := [9]) (by kernel_rfl) (by simp) ?_
          refine AllReadyH.cons (List.getElem?_toArray.trans rfl) (fun K hK => ?_) AllReadyH.nil
          go_simp
          go_at_call 51
          refine (ref_fault' _ x n HN.out HST.out).mono ?_
          rintro e w2 ⟨rfl, hx2⟩
          have H2 := Lib.hid (H1.out.step hx2)
          have hlv2 := HLV.out _ H2.out.ext
          clear hx2 H1
          refine hK.out _ _ hlv2 (fun hHeld => ?_)
          clear hK K
          try simp only [Act.put, List.setIfInBounds_toArray, List.set_cons_zero, List.set_cons_succ]
          refine wpAnyH_take (i := 10) (v := ?_) (List.getElem?_toArray.trans rfl) (by kernel_rfl) (by kernel_rfl) (by kernel_rfl) (fun _ _ _ h => h) (Or.inl ⟨by rfl, ?_⟩) (by assumption) ?_
          rotate_left
          · intro w hSw
            try dsimp only at hSw
            go_simp
            try with_reducible rfl
          try simp only [Act.put, List.setIfInBounds_toArray, List.set_cons_zero, List.set_cons_succ]
          refine wpAnyH_take (i := 11) (v := ?_) (List.getElem?_toArray.trans rfl) (by kernel_rfl) (by kernel_rfl) (by kernel_rfl) (fun _ _ _ h => h) (Or.inl ⟨by rfl, ?_⟩) (by assumption) ?_
          rotate_left
          · intro w hSw
            try dsimp only at hSw
            go_simp
            try with_reducible rfl
          try simp only [Act.put, List.setIfInBounds_toArray, List.set_cons_zero, List.set_cons_succ]
          refine wpAnyH_take (i := 12) (v := ?_) (List.getElem?_toArray.trans rfl) (by kernel_rfl) (by kernel_rfl) (by kernel_rfl) (fun _ _ _ h => h) (Or.inl ⟨by rfl, ?_⟩) (by assumption) ?_
          rotate_left
          · intro w hSw
            try dsimp only at hSw
            go_simp
            try with_reducible rfl
          try simp only [Act.put, List.setIfInBounds_toArray, List.set_cons_zero, List.set_cons_succ]
          refine wpAnyH_take (i := 13) (v := ?_) (List.getElem?_toArray.trans rfl) (by kernel_rfl) (by kernel_rfl) (by kernel_rfl) (fun _ _ _ h => h) (Or.inl ⟨by rfl, ?_⟩) (by assumption) ?_
          rotate_left
          · intro w hSw
            try dsimp only at hSw
            go_simp
            try with_reducible rfl
          try simp only [Act.put, List.setIfInBounds_toArray, List.set_cons_zero, List.set_cons_succ]
          refine wpAnyH_take (i := 14) (v := ?_) (List.getElem?_toArray.trans rfl) (by kernel_rfl) (by kernel_rfl) (by kernel_rfl) (fun _ _ _ h => h) (Or.inl ⟨by rfl, ?_⟩) (by assumption) ?_
          rotate_left
          · intro w hSw
            try dsimp only at hSw
            go_simp
            try with_reducible rfl
          try simp only [Act.put, List.setIfInBounds_toArray, List.set_cons_zero, List.set_cons_succ]
          refine wpAnyH_take (i := 15) (v := ?_) (List.getElem?_toArray.trans rfl) (by kernel_rfl) (by kernel_rfl) (by kernel_rfl) (fun _ _ _ h => h) (Or.inl ⟨by rfl, ?_⟩) (by assumption) ?_
          rotate_left
          · intro w hSw
            try dsimp only at hSw
            go_simp
            try with_reducible rfl
          try simp only [Act.put, List.setIfInBounds_toArray, List.set_cons_zero, List.set_cons_succ]
          refine wpAnyH_take (i := 16) (v := ?_) (List.getElem?_toArray.trans rfl) (by kernel_rfl) (by kernel_rfl) (by kernel_rfl) (fun _ _ _ h => h) (Or.inl ⟨by rfl, ?_⟩) (by assumption) ?_
          rotate_left
          · intro w hSw
            try dsimp only at hSw
            go_simp
            try with_reducible rfl
          try simp only [Act.put, List.setIfInBounds_toArray, List.set_cons_zero, List.set_cons_succ]
          refine wpAnyH_take (i := 18) (v := ?_) (List.getElem?_toArray.trans rfl) (by kernel_rfl) (by kernel_rfl) (by kernel_rfl) (fun _ _ _ h => h) (Or.inl ⟨by rfl, ?_⟩) (by assumption) ?_
          rotate_left
          · intro w hSw
            try dsimp only at hSw
            go_simp
            try with_reducible rfl
          try simp only [Act.put, List.setIfInBounds_toArray, List.set_cons_zero, List.set_cons_succ]
          refine wpAnyH_take (i := 19) (v := ?_) (List.getElem?_toArray.trans rfl) (by kernel_rfl) (by kernel_rfl) (by kernel_rfl) (fun _ _ _ h => h) (Or.inl ⟨by rfl, ?_⟩) (by assumption) ?_
          rotate_left
          · intro w hSw
            try dsimp only at hSw
            go_simp
            try with_reducible rfl
          try simp only [Act.put, List.setIfInBounds_toArray, List.set_cons_zero, List.set_cons_succ]
          refine wpAnyH_take (i := 20) (v := ?_) (List.getElem?_toArray.trans rfl) (by kernel_rfl) (by kernel_rfl) (by kernel_rfl) (fun _ _ _ h => h) (Or.inl ⟨by rfl, ?_⟩) (by assumption) ?_
          rotate_left
          · intro w hSw
            try dsimp only at hSw
            go_simp
            try with_reducible rfl
          try simp only [Act.put, List.setIfInBounds_toArray, List.set_cons_zero, List.set_cons_succ]
          refine wpAnyH_take (i := 21) (v := ?_) (List.getElem?_toArray.trans rfl) (by kernel_rfl) (by kernel_rfl) (by kernel_rfl) (fun _ _ _ h => h) (Or.inl ⟨by rfl, ?_⟩) (by assumption) ?_
          rotate_left
          · intro w hSw
            try dsimp only at hSw
            go_simp
            try with_reducible rfl
          try simp only [Act.put, List.setIfInBounds_toArray, List.set_cons_zero, List.set_cons_succ]
          refine wpAnyH_take (i := 22) (v := ?_) (List.getElem?_toArray.trans rfl) (by kernel_rfl) (by kernel_rfl) (by kernel_rfl) (fun _ _ _ h => h) (Or.inl ⟨by rfl, ?_⟩) (by assumption) ?_
          rotate_left
          · intro w hSw
            try dsimp only at hSw
            go_simp
            try with_reducible rfl
          try simp only [Act.put, List.setIfInBounds_toArray, List.set_cons_zero, List.set_cons_succ]
          refine wpAnyH_ready (rs := [17]) (by kernel_rfl) (by simp) ?_
          refine AllReadyH.cons (List.getElem?_toArray.trans rfl) (fun K hK => ?_) AllReadyH.nil
          go_simp
          go_at_call 52
          obtain ⟨F3, hF3, hm3⟩ := H2.out.fs
          refine (files_do' _ g F3 L x hF3 HFO.out HST.out HFD.out).mono ?_
          rintro e w3 ⟨rfl, hq3⟩
          have H3 := Lib.hid (hm3 _ _ hq3)
          have hlv3 := HLV.out _ H3.out.ext
          clear hF3 hm3 hq3 H2
          refine hK.out _ _ hlv3 (fun hHeld => ?_)
          clear hK K
          try simp only [Act.put, List.setIfInBounds_toArray, List.set_cons_zero, List.set_cons_succ]
          refine wpAnyH_ready (rs := [23]) (by kernel_rfl) (by simp) ?_
          refine AllReadyH.cons (List.getElem?_toArray.trans rfl) (fun K hK => ?_) AllReadyH.nil
          go_simp
          go_at_call 53
          obtain ⟨F4, hF4, hm4⟩ := H3.out.snd
          refine (drawer_do' _ gd F4 D x hF4 HDO.out HST.out HDD.out).mono ?_
          rintro e w4 ⟨rfl, hq4⟩
          have H4 := Lib.hid (hm4 _ _ hq4)
          obtain ⟨Fd, ⟨vd, hFd, hhd⟩, _⟩ := H4.out.snd
          obtain ⟨Ad, cd, rfl, _⟩ := hhd.own.form
          have HHD := Lib.hid hhd
          have hcd4 := cell_of hhd.cell 0
          have hlv4 := HLV.out _ H4.out.ext
          clear hF4 hm4 hq4 H3 hhd hFd
          refine hK.out _ _ hlv4 (fun hHeld => ?_)
          clear hK K
          try simp only [Act.put, List.setIfInBounds_toArray, List.set_cons_zero, List.set_cons_succ]
          refine wpAnyH_take (i := 24) (v := ?_) (List.getElem?_toArray.trans rfl) (by kernel_rfl) (by kernel_rfl) (by kernel_rfl) (fun _ _ _ h => h) (Or.inl ⟨by rfl, ?_⟩) (by assumption) ?_
          rotate_left
          · intro w hSw
            try dsimp only at hSw
            go_simp
            try with_reducible rfl
          try simp only [Act.put, List.setIfInBounds_toArray, List.set_cons_zero, List.set_cons_succ]
          refine wpAnyH_take (i := 25) (v := ?_) (List.getElem?_toArray.trans rfl) (by kernel_rfl) (by kernel_rfl) (by kernel_rfl) (fun _ _ _ h => h) (Or.inl ⟨by rfl, ?_⟩) (by assumption) ?_
          rotate_left
          · intro w hSw
            try dsimp only at hSw
            go_simp
            try with_reducible rfl
          try simp only [Act.put, List.setIfInBounds_toArray, List.set_cons_zero, List.set_cons_succ]
          refine wpAnyH_take (i := 26) (v := ?_) (List.getElem?_toArray.trans rfl) (by kernel_rfl) (by kernel_rfl) (by kernel_rfl) (fun _ _ _ h => h) (Or.inl ⟨by rfl, ?_⟩) (by assumption) ?_
          rotate_left
          · intro w hSw
            try dsimp only at hSw
            go_simp
            try with_reducible rfl
          try simp only [Act.put, List.setIfInBounds_toArray, List.set_cons_zero, List.set_cons_succ]
          refine wpAnyH_take (i := 27) (v := ?_) (List.getElem?_toArray.trans rfl) (by kernel_rfl) (by kernel_rfl) (by kernel_rfl) (fun _ _ _ h => h) (Or.inl ⟨by rfl, ?_⟩) (by assumption) ?_
          rotate_left
          · intro w hSw
            try dsimp only at hSw
            go_simp
            try with_reducible rfl
          try simp only [Act.put, List.setIfInBounds_toArray, List.set_cons_zero, List.set_cons_succ]
          refine wpAnyH_take (i := 29) (v := ?_) (List.getElem?_toArray.trans rfl) (by kernel_rfl) (by kernel_rfl) (by kernel_rfl) (fun _ _ _ h => h) (Or.inl ⟨by rfl, ?_⟩) (by assumption) ?_
          rotate_left
          · intro w hSw
            try dsimp only at hSw
            go_simp
            try with_reducible rfl
          try simp only [Act.put, List.setIfInBounds_toArray, List.set_cons_zero, List.set_cons_succ]
          refine wpAnyH_take (i := 30) (v := ?_) (List.getElem?_toArray.trans rfl) (by kernel_rfl) (by kernel_rfl) (by kernel_rfl) (fun _ _ _ h => h) (Or.inl ⟨by rfl, ?_⟩) (by assumption) ?_
          rotate_left
          · intro w hSw
            try dsimp only at hSw
            go_simp
            try with_reducible rfl
          try simp only [Act.put, List.setIfInBounds_toArray, List.set_cons_zero, List.set_cons_succ]
          refine wpAnyH_more (S' := fun w' => LV Try.prog 29 (ad.add (k * 4)) w' = .ok (.agg x.cells) w' ∧ w'.cell? ⟨gd, 0, none⟩ = some (.slice Ad D'.length cd)) (fun _ h => h.1) _ _ _ _ ?_
          have hHeld2 := And.intro hHeld hcd4
          clear hHeld
          refine wpAnyH_take (i := 31) (v := ?_) (List.getElem?_toArray.trans rfl) (by kernel_rfl) (by kernel_rfl) (by kernel_rfl) (fun _ _ _ h => h) (Or.inl ⟨by rfl, ?_⟩) (by assumption) ?_
          rotate_left
          · intro w hSw
            try dsimp only at hSw
            go_simp
            try with_reducible rfl
          try simp only [Act.put, List.setIfInBounds_toArray, List.set_cons_zero, List.set_cons_succ]
          refine wpAnyH_ready (rs := [28]) (by kernel_rfl) (by simp) ?_
          refine AllReadyH.cons (List.getElem?_toArray.trans rfl) (fun K hK => ?_) AllReadyH.nil
          go_simp
          go_at_call 55
          obtain ⟨F5, ⟨v5, hF5, hh5⟩, _⟩ := H4.out.fs
          refine (files_names' _ g v5 L' N hh5 (by have := hL6.out; omega) HNN.out).mono ?_
          rintro e w5 ⟨A5, c5, rfl, ho5, hx5, hf5⟩
          have H5 := Lib.hid (H4.out.step hx5)
          have HHD5 := Lib.hid (HHD.out.ext hx5)
          have HO5 := Lib.hid ho5
          have hcd5 := cell_of HHD5.out.cell 0
          have hlv5 := HLV.out _ H5.out.ext
          clear hF5 hh5 ho5 hx5 hf5
          refine hK.out _ _ ⟨hlv5, hcd5⟩ (fun hHeld => ?_)
          clear hK K
          try simp only [Act.put, List.setIfInBounds_toArray, List.set_cons_zero, List.set_cons_succ]
          refine wpAnyH_ready (rs := [32]) (by kernel_rfl) (by simp) ?_
          refine AllReadyH.cons (List.getElem?_toArray.trans rfl) (fun K hK => ?_) AllReadyH.nil
          go_simp
          go_at_call 56
          refine (drawer_names' _ Ad cd _ D' N HHD5.out.reads (by have := HDO'.out.len; omega) rfl HND.out).mono ?_
          rintro e w6 ⟨A6, c6, rfl, ho6, hx6, hf6⟩
          have H6 := Lib.hid (H5.out.step hx6)
          have HO6 := Lib.hid ho6
          have hlv6 := HLV.out _ H6.out.ext
          have HO56 := Lib.hid (HO5.out.ext hx6)
          have HHD6 := Lib.hid (HHD5.out.ext hx6)
          have hcd6 := cell_of HHD6.out.cell 0
          clear ho6 hx6 hf6
          refine hK.out _ _ ⟨hlv6, hcd6⟩ (fun hHeld => ?_)
          clear hK K
          try simp only [Act.put, List.setIfInBounds_toArray, List.set_cons_zero, List.set_cons_succ]
          refine wpAnyH_ready (rs := [33]) (by kernel_rfl) (by simp) ?_
          refine AllReadyH.cons (List.getElem?_toArray.trans rfl) (fun K hK => ?_) AllReadyH.nil
          go_simp
          go_at_call 54
          refine (texts_yes2 _ _ _ _ _ _ _ _ N HO56.out.reads HO6.out.reads rfl rfl (by have := HNL.out; omega)).mono ?_
          rintro e w7 ⟨rfl, hx7⟩
          have H7 := Lib.hid (H6.out.step hx7)
          have hlv7 := HLV.out _ H7.out.ext
          have hcd7 := cell_of (HHD6.out.ext hx7).cell 0
          clear hx7
          refine hK.out _ _ ⟨hlv7, hcd7⟩ (fun hHeld => ?_)
          clear hK K
          try simp only [Act.put, List.setIfInBounds_toArray, List.set_cons_zero, List.set_cons_succ]
          refine wpAnyH_take (i := 34) (v := ?_) (List.getElem?_toArray.trans rfl) (by kernel_rfl) (by kernel_rfl) (by kernel_rfl) (fun _ _ _ h => h) (Or.inl ⟨by rfl, ?_⟩) (by assumption) ?_
          rotate_left
          · intro w hSw
            try dsimp only at hSw
            go_simp
            try with_reducible rfl
          try simp only [Act.put, List.setIfInBounds_toArray, List.set_cons_zero, List.set_cons_succ]
          refine wpAnyH_take (i := 35) (v := ?_) (List.getElem?_toArray.trans rfl) (by kernel_rfl) (by kernel_rfl) (by kernel_rfl) (fun _ _ _ h => h) (Or.inl ⟨by rfl, ?_⟩) (by assumption) ?_
          rotate_left
          · intro w hSw
            try dsimp only at hSw
            go_simp
            try with_reducible rfl
          try simp only [Act.put, List.setIfInBounds_toArray, List.set_cons_zero, List.set_cons_succ]
          refine wpAnyH_done (by kernel_rfl) ?_ _
          all_goals
            go_wp2
            go_roundw
            case rel => exact ⟨k + 1, by go_num, by omega, by rw [HL5.out, HL6.out]; exact H7.out⟩
            case measure => simp [intOf]; omega
        · have HEX := Lib.hid HZ.out.ext
          clear HZ
          obtain ⟨b, hb⟩ : ∃ b, decide (1 ≤ kind ∧ kind ≤ 4) = b := ⟨_, rfl⟩
          obtain ⟨b', hb'⟩ : ∃ b', okText 97 122 5 nm = b' := ⟨_, rfl⟩
          have HB := Lib.hid hb
          have HB' := Lib.hid hb'
          clear hb hb'
          go_wp2_with (first
            | (go_at_call 57; refine (files_changes _ kind b HB.out).mono ?_; rintro e w5 ⟨rfl, rfl⟩)
            | (go_at_call 58; refine (ref_ischange' _ kind b HB.out).mono ?_; rintro e w5 ⟨rfl, rfl⟩)
            | (go_at_call 59; refine (files_name' _ nm b' HB'.out hnm).mono ?_; rintro e w5 ⟨rfl, rfl⟩)
            | (go_at_call 60; refine (ref_isname' _ nm b' HB'.out hnm).mono ?_; rintro e w5 ⟨rfl, rfl⟩))
          go_ret
          exact ⟨by first | rfl | simp, HEX.out⟩
end Go.Proofs.Ytalfbhhldfffkaa
