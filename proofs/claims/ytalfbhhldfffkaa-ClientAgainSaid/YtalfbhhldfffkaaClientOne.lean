/- ClientOne: for every number and every list of steps the law returns true and leaves its arguments as they were. No condition. -/
import Derived.Test.YtalfbhhldfffkaaClientDoes
namespace Go.Proofs.Ytalfbhhldfffkaa
open Go.RowKit

theorem client_send_open (w : World) (F : Nat → Prop) (g : Nat) (x : Guest) (h : (repGuest g 102 63).on w F x) (ho : x.isOpen = true) :
    Calls Try.prog 30 #[.pointer (some ⟨g, 0, none⟩)] w fun e w' => e = .returned (.tuple #[.agg (⟨false, x.me, x.no, x.call, Answer.zero⟩ : Packet).cells, .bool true]) ∧ Ext w w' := by
  have := client_send' w F g x h
  unfold SendGuest gSend at this
  rw [if_pos ho] at this
  exact this
theorem client_send_shut (w : World) (F : Nat → Prop) (g : Nat) (x : Guest) (h : (repGuest g 102 63).on w F x) (ho : x.isOpen = false) :
    Calls Try.prog 30 #[.pointer (some ⟨g, 0, none⟩)] w fun e w' => e = .returned (.tuple #[.agg Packet.zero.cells, .bool false]) ∧ Ext w w' := by
  have := client_send' w F g x h
  unfold SendGuest gSend at this
  rw [if_neg (by rw [ho]; exact Bool.false_ne_true)] at this
  exact this
theorem client_open_b (w : World) (F : Nat → Prop) (g : Nat) (x : Guest) (b : Bool) (h : (repGuest g 102 63).on w F x) (ho : x.isOpen = b) :
    Calls Try.prog 29 #[.pointer (some ⟨g, 0, none⟩)] w fun e w' => e = .returned (.bool b) ∧ w = w' := by
  subst ho
  exact client_open' w F g x h
def OneRel (W wr : World) (gc : Nat) (me : Int) (l : List ClientStep) (a i : Value) : Prop :=
  ∃ (k : Nat) (G : Guest), i = .int .i64 k ∧ a = .int .i64 G.no ∧ k ≤ l.length ∧ GuestOk me G ∧ Has (repGuest gc 102 63) W wr G

theorem gHear_no' (g : Guest) (p : Packet) : (gHear g p).2.no = g.no := by unfold gHear; split <;> rfl
set_option maxHeartbeats 16000000 in
set_option maxRecDepth 100000 in
theorem clientOne (W : World) (me : Int) (A : Option Addr) (c : Nat) (l : List ClientStep) (hr : Reads W W.heap.size A l) (hs : ∀ x ∈ l, StrCStep x) (hl : l.length ≤ 140737488351232) :
    Calls Try.prog 7 #[.int .i64 me, .slice A l.length c] W fun e w' => e = .returned (.bool true) ∧ Ext W w' := by
  have HR := Lib.hid hr
  have HS := Lib.hid hs
  clear hr hs
  go_enter Try.func7, Try.ntmps7
  go_wp2_with fail
  refine (client_begun _).mono ?_
  rintro e w1 ⟨rfl, he1⟩
  have E1 := Lib.hid he1
  clear he1
  go_wp2_with fail
  refine (law_greatClient w1 A c l (HR.out.ext E1.out) HS.out hl).mono ?_
  rintro e w2 ⟨b, rfl, hb, he2⟩
  have E2 := Lib.hid (E1.out.then he2 fun _ h => h.elim)
  have HB := Lib.hid hb
  clear E1 he2 hb
  cases b with
  | true =>
    go_wp2_with fail
    go_ret
    exact ⟨rfl, E2.out⟩
  | false =>
    obtain ⟨hl4, hgr⟩ := HB.out rfl
    have HGR := Lib.hid hgr
    clear HB hgr
    by_cases hme : me < 0 ∨ 3 ≤ me
    · go_wp2_with fail
      refine (client_new_no _ me hme).mono ?_
      rintro e w3 ⟨rfl, rfl⟩
      rcases hme with h | h
      · go_wp2
        go_ret
        exact ⟨rfl, E2.out⟩
      · have h' : ¬ me < 0 := by omega
        go_wp2
        go_ret
        exact ⟨rfl, E2.out⟩
    · have hm1 : ¬ me < 0 := by omega
      have hm2 : ¬ 3 ≤ me := by omega
      clear hme
      go_wp2_with fail
      refine (client_new_yes _ me ⟨by omega, by omega⟩).mono ?_
      rintro e w3 ⟨rfl, rfl⟩
      go_wp2_with fail
      have H0 := Lib.hid (new_guest W w2 102 63 me E2.out)
      generalize World.alloc w2 (.cells ((gNew me).cells (.slice none 0 0)) 102) = w3 at H0 ⊢
      generalize w2.heap.size = gc at H0 ⊢
      go_loopw [6, 7] (fun a i wr => OneRel W wr gc me l a i) (fun _ i _ => l.length - (intOf i).toNat)
      case atStart => exact ⟨0, _, rfl, rfl, Nat.zero_le _, gNew_ok me, H0.out⟩
      case round =>
        obtain ⟨k, G, rfl, rfl, hk, hok, hh⟩ := hrel
        have H := Lib.hid hh
        have HO := Lib.hid hok
        have hd := gOk_done hok
        clear hh hok H0
        by_cases hlt : k < l.length
        · obtain ⟨x, hx⟩ : ∃ x, l[k]? = some x := ⟨l[k], by simp [hlt]⟩
          obtain ⟨ad, rfl, had, hat⟩ := HR.out k x hx
          have hadk : (ad.add (k * 16)).block = ad.block := by unfold Addr.add; split <;> rfl
          replace hat : At W (ad.add (k * 16)) x := hat
          have SA := Lib.hid (show ∀ w', Ext W w' → w'.cell? (ad.add (k * 16)) = some (.int .i64 x.do_) ∧ objPart ((ad.add (k * 16)).off + 1) 4 (w'.heap[(ad.add (k * 16)).block]?) = some x.c.cells ∧
              objPart ((ad.add (k * 16)).off + 5) 9 (w'.heap[(ad.add (k * 16)).block]?) = some x.p.cells ∧ objPart ((ad.add (k * 16)).off + 14) 2 (w'.heap[(ad.add (k * 16)).block]?) = some x.a.cells from fun w' hx' => by
            have h1 : At w' (ad.add (k * 16)) x := hat.of_same (hx'.block _ (by rw [hadk]; exact had) id)
            exact ⟨h1 0 _ rfl, objPart_at h1 x.c 1 x.part_c, objPart_at h1 x.p 5 x.part_p, objPart_at h1 x.a 14 x.part_a⟩)
          have HS1 := Lib.hid (short_step (HGR.out x (List.mem_of_getElem? hx)))
          have hadW : (ad.add (k * 16)).block < W.heap.size := by rw [hadk]; exact had
          have HADW := Lib.hid hadW
          clear hx hat had hadk hadW
          go_wp2_with fail
          obtain ⟨F4, hF4, _⟩ := H.out.one
          refine (client_done' _ F4 gc G hF4 (by omega)).mono ?_
          rintro e w4 ⟨A4, c4, rfl, ho4, he4, hf4⟩
          have H4 := Lib.hid (H.out.step he4)
          have HB4 := Lib.hid (H.out.beside (S := repOwn 63) (G := fun k => (Value.slice A4 G.done.length c4).ownBlock = some k) (y := (.slice A4 G.done.length c4, G.done)) he4 ⟨fun _ => Iff.rfl, ho4⟩ hf4)
          clear hF4 ho4 he4 hf4 H
          go_wp2_with fail
          obtain ⟨F5, hF5, _⟩ := H4.out.one
          refine (client_open' _ F5 gc G hF5).mono ?_
          rintro e w5 ⟨rfl, rfl⟩
          obtain ⟨sa0, sa1, sa2, sa3⟩ := SA.out w4 H4.out.ext
          clear hF5
          by_cases h0 : x.do_ = 0
          · rw [h0] at sa0
            clear sa2 sa3 h0
            go_wp2_with fail
            obtain ⟨F6, hF6, hm6⟩ := H4.out.one
            by_cases hcode : (gAsk G x.c).1 = 0
            · have hz := gAsk_zero hcode
              have hcall := client_ask' w4 F6 gc G x.c hF6 ⟨by have := HO.out.no; split at this <;> omega, HO.out.le⟩ HS1.out.c.h1 HS1.out.c.h2 HS1.out.c.h3
              rw [hcode] at hcall
              refine hcall.mono ?_
              rintro e w6 ⟨rfl, hv6⟩
              have H' := Lib.hid (hm6 _ _ hv6)
              have HO' := Lib.hid (gAsk_ok HO.out x.c)
              have hno : (gAsk G x.c).2.no = G.no + 1 := by rw [hz.2]
              generalize (gAsk G x.c).2 = G' at H' HO' hno ⊢
              have hle := HO'.out.le
              have hle' : G.no ≤ 199 := by omega
              have hno1 : 0 ≤ G.no := by have := HO.out.no; split at this <;> omega
              have HA := Lib.hid (show G.no + 1 = G'.no from hno.symm)
              clear hF6 hm6 hcall hv6 H4 hz hcode hno hle
              go_wp2_with fail
              obtain ⟨F9, hF9, _⟩ := H'.out.one
              refine (client_done' _ F9 gc G' hF9 (by have := gOk_done HO'.out; omega)).mono ?_
              rintro e w20 ⟨A20, c20, rfl, ho20, he20, _⟩
              have H20 := Lib.hid (H'.out.step he20)
              have HR20 := Lib.hid (Owns.reads ho20)
              have hd20 : G'.done.length ≤ 200 := gOk_done HO'.out
              clear hF9 ho20 he20 H'
              go_wp2_with fail
              go_loop [13] (fun i => ∃ j : Nat, i = .int .i64 j ∧ j ≤ G'.done.length) (fun i => G'.done.length - (intOf i).toNat)
              case atStart => exact ⟨0, rfl, Nat.zero_le _⟩
              case round =>
                obtain ⟨j, rfl, hj⟩ := hrel
                by_cases hlj : j < G'.done.length
                · obtain ⟨r, hr⟩ : ∃ r, G'.done[j]? = some r := ⟨G'.done[j], by simp [hlj]⟩
                  obtain ⟨ad2, rfl, _, hat2⟩ := HR20.out j r hr
                  obtain ⟨hm1, hm2⟩ := HO'.out.nums j r hr
                  have hz0 : w20.cell? (ad2.add (j * 8)) = some (.int .i64 me) := by
                    have := hat2 0 _ (Record.get0 r)
                    rw [hm1] at this
                    exact this
                  have hz1 : w20.cell? ⟨(ad2.add (j * 8)).block, (ad2.add (j * 8)).off + 1, none⟩ = some (.int .i64 ((j : Int) + 1)) := by
                    have := hat2 1 _ (Record.get1 r)
                    rw [hm2] at this
                    exact this
                  clear hr hat2 hm1 hm2
                  go_wp2
                  go_round
                  case rel => exact ⟨j + 1, by go_num, by omega⟩
                  case measure => simp [intOf]; omega
                · cases ho9 : G'.isOpen with
                  | true =>
                    have hn9 : G'.no = (G'.done.length : Int) + 1 := by have := HO'.out.no; rw [ho9] at this; simpa using this
                    have hne1 : (((G'.done.length : Int) + 1) != (G.no + 1)) = false := by first | (rw [HA.out, hn9]; simp) | (rw [hn9]; simp)
                    have hne2 : (G'.no != ((G'.done.length : Int) + 1)) = false := by rw [hn9]; simp
                    have hne3 : (G'.me != me) = false := by rw [HO'.out.me]; simp
                    have HOP := Lib.hid ho9
                    clear ho9 hn9
                    go_wp2_with fail
                    obtain ⟨F8, hF8, _⟩ := H20.out.one
                    refine (client_open_b _ F8 gc _ true hF8 HOP.out).mono ?_
                    rintro e w21 ⟨rfl, rfl⟩
                    go_wp2_with fail
                    refine (client_send_open _ F8 gc _ hF8 HOP.out).mono ?_
                    rintro e w22 ⟨rfl, he22⟩
                    have H22 := Lib.hid (H20.out.step (he22.alloc (.cells (⟨false, G'.me, G'.no, G'.call, Answer.zero⟩ : Packet).cells 33)))
                    clear hF8 he22 H20
                    go_wp2_with fail
                    obtain ⟨F8, hF8, _⟩ := H22.out.one
                    refine (client_open_b _ F8 gc _ true hF8 HOP.out).mono ?_
                    rintro e w23 ⟨rfl, rfl⟩
                    clear hF8
                    go_wp2
                    go_roundw
                    case rel => exact ⟨k + 1, G', by go_num, by first | rw [HA.out] | rfl, by omega, HO'.out, H22.out⟩
                    case measure => simp [intOf]; omega
                  | false =>
                    have hn9 : G'.no = (G'.done.length : Int) := by have := HO'.out.no; rw [ho9] at this; simpa using this
                    have hne1 : ((G'.done.length : Int) != (G.no + 1)) = false := by first | (rw [HA.out, hn9]; simp) | (rw [hn9]; simp)
                    have HOP := Lib.hid ho9
                    clear ho9 hn9
                    go_wp2_with fail
                    obtain ⟨F8, hF8, _⟩ := H20.out.one
                    refine (client_open_b _ F8 gc _ false hF8 HOP.out).mono ?_
                    rintro e w21 ⟨rfl, rfl⟩
                    go_wp2_with fail
                    refine (client_send_shut _ F8 gc _ hF8 HOP.out).mono ?_
                    rintro e w22 ⟨rfl, he22⟩
                    have H22 := Lib.hid (H20.out.step (he22.alloc (.cells Packet.zero.cells 33)))
                    clear hF8 he22 H20
                    go_wp2_with fail
                    obtain ⟨F8, hF8, _⟩ := H22.out.one
                    refine (client_open_b _ F8 gc _ false hF8 HOP.out).mono ?_
                    rintro e w23 ⟨rfl, rfl⟩
                    clear hF8
                    go_wp2
                    go_roundw
                    case rel => exact ⟨k + 1, G', by go_num, by first | rw [HA.out] | rfl, by omega, HO'.out, H22.out⟩
                    case measure => simp [intOf]; omega
            · have hcall := client_ask' w4 F6 gc G x.c hF6 ⟨by have := HO.out.no; split at this <;> omega, HO.out.le⟩ HS1.out.c.h1 HS1.out.c.h2 HS1.out.c.h3
              have hcb : ((gAsk G x.c).1 == 0) = false := beq_eq_false_iff_ne.2 hcode
              generalize hcd : (gAsk G x.c).1 = code at hcall hcb
              rw [gAsk_code hcode] at hcall
              refine hcall.mono ?_
              rintro e w6 ⟨rfl, hv6⟩
              have H' := Lib.hid (hm6 _ _ hv6)
              have HO' := HO
              have HA := Lib.hid (show G.no = G.no from rfl)
              clear hF6 hm6 hcall hv6 H4 hcode hcd
              generalize hgg : G = G' at H' HO' HA ⊢
              go_wp2_with fail
              obtain ⟨F9, hF9, _⟩ := H'.out.one
              refine (client_done' _ F9 gc G' hF9 (by have := gOk_done HO'.out; omega)).mono ?_
              rintro e w20 ⟨A20, c20, rfl, ho20, he20, _⟩
              have H20 := Lib.hid (H'.out.step he20)
              have HR20 := Lib.hid (Owns.reads ho20)
              have hd20 : G'.done.length ≤ 200 := gOk_done HO'.out
              clear hF9 ho20 he20 H'
              go_wp2_with fail
              go_loop [13] (fun i => ∃ j : Nat, i = .int .i64 j ∧ j ≤ G'.done.length) (fun i => G'.done.length - (intOf i).toNat)
              case atStart => exact ⟨0, rfl, Nat.zero_le _⟩
              case round =>
                obtain ⟨j, rfl, hj⟩ := hrel
                by_cases hlj : j < G'.done.length
                · obtain ⟨r, hr⟩ : ∃ r, G'.done[j]? = some r := ⟨G'.done[j], by simp [hlj]⟩
                  obtain ⟨ad2, rfl, _, hat2⟩ := HR20.out j r hr
                  obtain ⟨hm1, hm2⟩ := HO'.out.nums j r hr
                  have hz0 : w20.cell? (ad2.add (j * 8)) = some (.int .i64 me) := by
                    have := hat2 0 _ (Record.get0 r)
                    rw [hm1] at this
                    exact this
                  have hz1 : w20.cell? ⟨(ad2.add (j * 8)).block, (ad2.add (j * 8)).off + 1, none⟩ = some (.int .i64 ((j : Int) + 1)) := by
                    have := hat2 1 _ (Record.get1 r)
                    rw [hm2] at this
                    exact this
                  clear hr hat2 hm1 hm2
                  go_wp2
                  go_round
                  case rel => exact ⟨j + 1, by go_num, by omega⟩
                  case measure => simp [intOf]; omega
                · cases ho9 : G'.isOpen with
                  | true =>
                    have hn9 : G'.no = (G'.done.length : Int) + 1 := by have := HO'.out.no; rw [ho9] at this; simpa using this
                    have hne1 : (((G'.done.length : Int) + 1) != G'.no) = false := by first | (rw [HA.out, hn9]; simp) | (rw [hn9]; simp)
                    have hne2 : (G'.no != ((G'.done.length : Int) + 1)) = false := by rw [hn9]; simp
                    have hne3 : (G'.me != me) = false := by rw [HO'.out.me]; simp
                    have HOP := Lib.hid ho9
                    clear ho9 hn9
                    go_wp2_with fail
                    obtain ⟨F8, hF8, _⟩ := H20.out.one
                    refine (client_open_b _ F8 gc _ true hF8 HOP.out).mono ?_
                    rintro e w21 ⟨rfl, rfl⟩
                    go_wp2_with fail
                    refine (client_send_open _ F8 gc _ hF8 HOP.out).mono ?_
                    rintro e w22 ⟨rfl, he22⟩
                    have H22 := Lib.hid (H20.out.step (he22.alloc (.cells (⟨false, G'.me, G'.no, G'.call, Answer.zero⟩ : Packet).cells 33)))
                    clear hF8 he22 H20
                    go_wp2_with fail
                    obtain ⟨F8, hF8, _⟩ := H22.out.one
                    refine (client_open_b _ F8 gc _ true hF8 HOP.out).mono ?_
                    rintro e w23 ⟨rfl, rfl⟩
                    clear hF8
                    go_wp2
                    go_roundw
                    case rel => exact ⟨k + 1, G', by go_num, by first | rw [HA.out] | rfl, by omega, HO'.out, H22.out⟩
                    case measure => simp [intOf]; omega
                  | false =>
                    have hn9 : G'.no = (G'.done.length : Int) := by have := HO'.out.no; rw [ho9] at this; simpa using this
                    have hne1 : ((G'.done.length : Int) != G'.no) = false := by first | (rw [HA.out, hn9]; simp) | (rw [hn9]; simp)
                    have HOP := Lib.hid ho9
                    clear ho9 hn9
                    go_wp2_with fail
                    obtain ⟨F8, hF8, _⟩ := H20.out.one
                    refine (client_open_b _ F8 gc _ false hF8 HOP.out).mono ?_
                    rintro e w21 ⟨rfl, rfl⟩
                    go_wp2_with fail
                    refine (client_send_shut _ F8 gc _ hF8 HOP.out).mono ?_
                    rintro e w22 ⟨rfl, he22⟩
                    have H22 := Lib.hid (H20.out.step (he22.alloc (.cells Packet.zero.cells 33)))
                    clear hF8 he22 H20
                    go_wp2_with fail
                    obtain ⟨F8, hF8, _⟩ := H22.out.one
                    refine (client_open_b _ F8 gc _ false hF8 HOP.out).mono ?_
                    rintro e w23 ⟨rfl, rfl⟩
                    clear hF8
                    go_wp2
                    go_roundw
                    case rel => exact ⟨k + 1, G', by go_num, by first | rw [HA.out] | rfl, by omega, HO'.out, H22.out⟩
                    case measure => simp [intOf]; omega
          have hd0 : (x.do_ == 0) = false := beq_eq_false_iff_ne.2 h0
          clear h0
          by_cases h1 : x.do_ = 1
          · rw [h1] at sa0
            clear sa1 sa3 h1 hd0
            go_wp2_with fail
            obtain ⟨F6, hF6, hm6⟩ := H4.out.one
            have hcall := client_hear' w4 F6 gc G x.p hF6 (by omega)
            cases hb : (gHear G x.p).1 with
            | true =>
              rw [hb] at hcall
              refine hcall.mono ?_
              rintro e w6 ⟨rfl, hv6⟩
              have H' := Lib.hid (hm6 _ _ hv6)
              have HO' := Lib.hid (gHear_ok HO.out x.p)
              have HA := Lib.hid (show G.no = (gHear G x.p).2.no from (gHear_no' G x.p).symm)
              generalize (gHear G x.p).2 = G' at H' HO' HA ⊢
              clear hF6 hm6 hcall hv6 H4 hb
              go_wp2_with fail
              obtain ⟨F9, hF9, _⟩ := H'.out.one
              refine (client_done' _ F9 gc G' hF9 (by have := gOk_done HO'.out; omega)).mono ?_
              rintro e w20 ⟨A20, c20, rfl, ho20, he20, _⟩
              have H20 := Lib.hid (H'.out.step he20)
              have HR20 := Lib.hid (Owns.reads ho20)
              have hd20 : G'.done.length ≤ 200 := gOk_done HO'.out
              clear hF9 ho20 he20 H'
              go_wp2_with fail
              go_loop [13] (fun i => ∃ j : Nat, i = .int .i64 j ∧ j ≤ G'.done.length) (fun i => G'.done.length - (intOf i).toNat)
              case atStart => exact ⟨0, rfl, Nat.zero_le _⟩
              case round =>
                obtain ⟨j, rfl, hj⟩ := hrel
                by_cases hlj : j < G'.done.length
                · obtain ⟨r, hr⟩ : ∃ r, G'.done[j]? = some r := ⟨G'.done[j], by simp [hlj]⟩
                  obtain ⟨ad2, rfl, _, hat2⟩ := HR20.out j r hr
                  obtain ⟨hm1, hm2⟩ := HO'.out.nums j r hr
                  have hz0 : w20.cell? (ad2.add (j * 8)) = some (.int .i64 me) := by
                    have := hat2 0 _ (Record.get0 r)
                    rw [hm1] at this
                    exact this
                  have hz1 : w20.cell? ⟨(ad2.add (j * 8)).block, (ad2.add (j * 8)).off + 1, none⟩ = some (.int .i64 ((j : Int) + 1)) := by
                    have := hat2 1 _ (Record.get1 r)
                    rw [hm2] at this
                    exact this
                  clear hr hat2 hm1 hm2
                  go_wp2
                  go_round
                  case rel => exact ⟨j + 1, by go_num, by omega⟩
                  case measure => simp [intOf]; omega
                · cases ho9 : G'.isOpen with
                  | true =>
                    have hn9 : G'.no = (G'.done.length : Int) + 1 := by have := HO'.out.no; rw [ho9] at this; simpa using this
                    have hne1 : (((G'.done.length : Int) + 1) != G.no) = false := by first | (rw [HA.out, hn9]; simp) | (rw [hn9]; simp)
                    have hne2 : (G'.no != ((G'.done.length : Int) + 1)) = false := by rw [hn9]; simp
                    have hne3 : (G'.me != me) = false := by rw [HO'.out.me]; simp
                    have HOP := Lib.hid ho9
                    clear ho9 hn9
                    go_wp2_with fail
                    obtain ⟨F8, hF8, _⟩ := H20.out.one
                    refine (client_open_b _ F8 gc _ true hF8 HOP.out).mono ?_
                    rintro e w21 ⟨rfl, rfl⟩
                    go_wp2_with fail
                    refine (client_send_open _ F8 gc _ hF8 HOP.out).mono ?_
                    rintro e w22 ⟨rfl, he22⟩
                    have H22 := Lib.hid (H20.out.step (he22.alloc (.cells (⟨false, G'.me, G'.no, G'.call, Answer.zero⟩ : Packet).cells 33)))
                    clear hF8 he22 H20
                    go_wp2_with fail
                    obtain ⟨F8, hF8, _⟩ := H22.out.one
                    refine (client_open_b _ F8 gc _ true hF8 HOP.out).mono ?_
                    rintro e w23 ⟨rfl, rfl⟩
                    clear hF8
                    go_wp2
                    go_roundw
                    case rel => exact ⟨k + 1, G', by go_num, by first | rw [HA.out] | rfl, by omega, HO'.out, H22.out⟩
                    case measure => simp [intOf]; omega
                  | false =>
                    have hn9 : G'.no = (G'.done.length : Int) := by have := HO'.out.no; rw [ho9] at this; simpa using this
                    have hne1 : ((G'.done.length : Int) != G.no) = false := by first | (rw [HA.out, hn9]; simp) | (rw [hn9]; simp)
                    have HOP := Lib.hid ho9
                    clear ho9 hn9
                    go_wp2_with fail
                    obtain ⟨F8, hF8, _⟩ := H20.out.one
                    refine (client_open_b _ F8 gc _ false hF8 HOP.out).mono ?_
                    rintro e w21 ⟨rfl, rfl⟩
                    go_wp2_with fail
                    refine (client_send_shut _ F8 gc _ hF8 HOP.out).mono ?_
                    rintro e w22 ⟨rfl, he22⟩
                    have H22 := Lib.hid (H20.out.step (he22.alloc (.cells Packet.zero.cells 33)))
                    clear hF8 he22 H20
                    go_wp2_with fail
                    obtain ⟨F8, hF8, _⟩ := H22.out.one
                    refine (client_open_b _ F8 gc _ false hF8 HOP.out).mono ?_
                    rintro e w23 ⟨rfl, rfl⟩
                    clear hF8
                    go_wp2
                    go_roundw
                    case rel => exact ⟨k + 1, G', by go_num, by first | rw [HA.out] | rfl, by omega, HO'.out, H22.out⟩
                    case measure => simp [intOf]; omega
            | false =>
              clear hF6 hm6 hcall
              obtain ⟨F6, hF6, hm6⟩ := HB4.out.fst
              have hcall := client_hear' w4 F6 gc G x.p hF6 (by omega)
              rw [hb, gHear_no hb] at hcall
              refine hcall.mono ?_
              rintro e w6 ⟨rfl, hv6⟩
              have HB6 := hm6 _ _ hv6
              have H6 := Lib.hid HB6.left
              obtain ⟨_, ⟨_, ho6⟩, _⟩ := HB6.right.ex
              have HO6 := Lib.hid ho6
              clear ho6 HB6
              clear hF6 hm6 hcall hv6 H4 hb
              go_wp2_with fail
              obtain ⟨F7, hF7, _⟩ := H6.out.one
              refine (client_open' _ F7 gc G hF7).mono ?_
              rintro e w7 ⟨rfl, rfl⟩
              clear hF7
              go_wp2_with fail
              obtain ⟨F7, hF7, _⟩ := H6.out.one
              refine (client_done' _ F7 gc G hF7 (by omega)).mono ?_
              rintro e w7 ⟨A7, c7, rfl, ho7, he7, _⟩
              have H7 := Lib.hid (H6.out.step he7)
              have HR4 := Lib.hid (Owns.reads (HO6.out.ext he7))
              have HR7 := Lib.hid (Owns.reads ho7)
              clear hF7 ho7 he7 H6 HO6
              go_wp2_with fail
              refine (sameRecords _ _ _ _ G.done G.done _ _ HR4.out HR7.out (by omega) (by omega)).mono ?_
              rintro e w8 ⟨rfl, n8, rfl⟩
              have hdt : decide (G.done = G.done) = true := by simp
              have H' := Lib.hid (H7.out.step ((Touch.refl _ _).drewN n8))
              have HO' := HO
              have HA := Lib.hid (show G.no = G.no from rfl)
              clear H7 HR4 HR7
              generalize hgg : G = G' at H' HO' HA ⊢
              go_wp2_with fail
              obtain ⟨F9, hF9, _⟩ := H'.out.one
              refine (client_done' _ F9 gc G' hF9 (by have := gOk_done HO'.out; omega)).mono ?_
              rintro e w20 ⟨A20, c20, rfl, ho20, he20, _⟩
              have H20 := Lib.hid (H'.out.step he20)
              have HR20 := Lib.hid (Owns.reads ho20)
              have hd20 : G'.done.length ≤ 200 := gOk_done HO'.out
              clear hF9 ho20 he20 H'
              go_wp2_with fail
              go_loop [13] (fun i => ∃ j : Nat, i = .int .i64 j ∧ j ≤ G'.done.length) (fun i => G'.done.length - (intOf i).toNat)
              case atStart => exact ⟨0, rfl, Nat.zero_le _⟩
              case round =>
                obtain ⟨j, rfl, hj⟩ := hrel
                by_cases hlj : j < G'.done.length
                · obtain ⟨r, hr⟩ : ∃ r, G'.done[j]? = some r := ⟨G'.done[j], by simp [hlj]⟩
                  obtain ⟨ad2, rfl, _, hat2⟩ := HR20.out j r hr
                  obtain ⟨hm1, hm2⟩ := HO'.out.nums j r hr
                  have hz0 : w20.cell? (ad2.add (j * 8)) = some (.int .i64 me) := by
                    have := hat2 0 _ (Record.get0 r)
                    rw [hm1] at this
                    exact this
                  have hz1 : w20.cell? ⟨(ad2.add (j * 8)).block, (ad2.add (j * 8)).off + 1, none⟩ = some (.int .i64 ((j : Int) + 1)) := by
                    have := hat2 1 _ (Record.get1 r)
                    rw [hm2] at this
                    exact this
                  clear hr hat2 hm1 hm2
                  go_wp2
                  go_round
                  case rel => exact ⟨j + 1, by go_num, by omega⟩
                  case measure => simp [intOf]; omega
                · cases ho9 : G'.isOpen with
                  | true =>
                    have hn9 : G'.no = (G'.done.length : Int) + 1 := by have := HO'.out.no; rw [ho9] at this; simpa using this
                    have hne1 : (((G'.done.length : Int) + 1) != G'.no) = false := by first | (rw [HA.out, hn9]; simp) | (rw [hn9]; simp)
                    have hne2 : (G'.no != ((G'.done.length : Int) + 1)) = false := by rw [hn9]; simp
                    have hne3 : (G'.me != me) = false := by rw [HO'.out.me]; simp
                    have HOP := Lib.hid ho9
                    clear ho9 hn9
                    go_wp2_with fail
                    obtain ⟨F8, hF8, _⟩ := H20.out.one
                    refine (client_open_b _ F8 gc _ true hF8 HOP.out).mono ?_
                    rintro e w21 ⟨rfl, rfl⟩
                    go_wp2_with fail
                    refine (client_send_open _ F8 gc _ hF8 HOP.out).mono ?_
                    rintro e w22 ⟨rfl, he22⟩
                    have H22 := Lib.hid (H20.out.step (he22.alloc (.cells (⟨false, G'.me, G'.no, G'.call, Answer.zero⟩ : Packet).cells 33)))
                    clear hF8 he22 H20
                    go_wp2_with fail
                    obtain ⟨F8, hF8, _⟩ := H22.out.one
                    refine (client_open_b _ F8 gc _ true hF8 HOP.out).mono ?_
                    rintro e w23 ⟨rfl, rfl⟩
                    clear hF8
                    go_wp2
                    go_roundw
                    case rel => exact ⟨k + 1, G', by go_num, by first | rw [HA.out] | rfl, by omega, HO'.out, H22.out⟩
                    case measure => simp [intOf]; omega
                  | false =>
                    have hn9 : G'.no = (G'.done.length : Int) := by have := HO'.out.no; rw [ho9] at this; simpa using this
                    have hne1 : ((G'.done.length : Int) != G'.no) = false := by first | (rw [HA.out, hn9]; simp) | (rw [hn9]; simp)
                    have HOP := Lib.hid ho9
                    clear ho9 hn9
                    go_wp2_with fail
                    obtain ⟨F8, hF8, _⟩ := H20.out.one
                    refine (client_open_b _ F8 gc _ false hF8 HOP.out).mono ?_
                    rintro e w21 ⟨rfl, rfl⟩
                    go_wp2_with fail
                    refine (client_send_shut _ F8 gc _ hF8 HOP.out).mono ?_
                    rintro e w22 ⟨rfl, he22⟩
                    have H22 := Lib.hid (H20.out.step (he22.alloc (.cells Packet.zero.cells 33)))
                    clear hF8 he22 H20
                    go_wp2_with fail
                    obtain ⟨F8, hF8, _⟩ := H22.out.one
                    refine (client_open_b _ F8 gc _ false hF8 HOP.out).mono ?_
                    rintro e w23 ⟨rfl, rfl⟩
                    clear hF8
                    go_wp2
                    go_roundw
                    case rel => exact ⟨k + 1, G', by go_num, by first | rw [HA.out] | rfl, by omega, HO'.out, H22.out⟩
                    case measure => simp [intOf]; omega
          have hd1 : (x.do_ == 1) = false := beq_eq_false_iff_ne.2 h1
          clear h1
          by_cases h2 : x.do_ = 2
          · rw [h2] at sa0
            clear sa1 sa2 h2 HB4
            go_wp2_with fail
            obtain ⟨F6, hF6, _⟩ := H4.out.one
            refine (client_send' w4 F6 gc G hF6).mono ?_
            rintro e w6 ⟨rfl, he6⟩
            have H6 := Lib.hid ((H4.out.step he6).box (gSend G).1.cells 33)
            have hbp : ((ad.add (k * 16)).block = w6.heap.size) = False := by have := HADW.out; have := (H4.out.step he6).ext.size; simp; omega
            clear hF6 he6 H4 sa3 sa0
            go_wp2_with fail
            generalize w6.alloc (.cells (gSend G).1.cells 33) = w7 at H6 ⊢
            generalize w6.heap.size = bp at H6 hbp ⊢
            have hp6 := H6.out.blk
            obtain ⟨_, _, _, sa3⟩ := SA.out w7 H6.out.ext
            have hp0 : w7.cell? ⟨bp, 0, none⟩ = some (.bool (gSend G).1.reply) := by rw [cell_of hp6 0, Packet.get0]
            have hpf := fun o => frozen_of hp6 o
            go_region_held3 (fun w' => objPart ((ad.add (k * 16)).off + 14) 2 (w'.heap[(ad.add (k * 16)).block]?) = some x.a.cells) (simp only [heap_setCell', heap_setRow', hbp, heap_drew', sa3]) (fail)
            have H7 := Lib.hid (Has.step (H6.out.turn (w' := World.setRow (World.setCell w7 ⟨bp, 0, none⟩ (.bool true)) bp (⟨true, (gSend G).1.client, (gSend G).1.no, (gSend G).1.call, x.a⟩ : Packet).cells) (cs' := (⟨true, (gSend G).1.client, (gSend G).1.no, (gSend G).1.call, x.a⟩ : Packet).cells) (Touch.setRow_at (Touch.setCell_at (Touch.refl _ _) _ _) _) (by rw [heap_setRow_map, heap_setCell_map, hp6]; rfl)) ((Touch.refl _ _).drew))
            generalize World.drew (World.setRow (World.setCell w7 ⟨bp, 0, none⟩ (.bool true)) bp (⟨true, (gSend G).1.client, (gSend G).1.no, (gSend G).1.call, x.a⟩ : Packet).cells) = w8 at H7 ⊢
            clear hp6 hp0 hpf H6 sa3 hbp
            have hx8 := H7.out.blk
            go_wp2_with fail
            obtain ⟨F8, hF8, hm8⟩ := H7.out.fst
            have hcall := client_hear' w8 F8 gc G (⟨true, (gSend G).1.client, (gSend G).1.no, (gSend G).1.call, x.a⟩ : Packet) hF8 (by omega)
            rw [show (gHear G (⟨true, (gSend G).1.client, (gSend G).1.no, (gSend G).1.call, x.a⟩ : Packet)).1 = (gSend G).2 from gSend_hear x.a] at hcall
            refine hcall.mono ?_
            rintro e w9 ⟨rfl, hv9⟩
            have H' := Lib.hid (hm8 _ _ hv9).left
            have HO' := Lib.hid (gHear_ok HO.out (⟨true, (gSend G).1.client, (gSend G).1.no, (gSend G).1.call, x.a⟩ : Packet))
            have HA := Lib.hid (show G.no = (gHear G (⟨true, (gSend G).1.client, (gSend G).1.no, (gSend G).1.call, x.a⟩ : Packet)).2.no from (gHear_no' G _).symm)
            generalize (gHear G (⟨true, (gSend G).1.client, (gSend G).1.no, (gSend G).1.call, x.a⟩ : Packet)).2 = G' at H' HO' HA ⊢
            clear hF8 hm8 hcall hv9 H7 hx8
            go_wp2_with fail
            obtain ⟨F9, hF9, _⟩ := H'.out.one
            refine (client_done' _ F9 gc G' hF9 (by have := gOk_done HO'.out; omega)).mono ?_
            rintro e w20 ⟨A20, c20, rfl, ho20, he20, _⟩
            have H20 := Lib.hid (H'.out.step he20)
            have HR20 := Lib.hid (Owns.reads ho20)
            have hd20 : G'.done.length ≤ 200 := gOk_done HO'.out
            clear hF9 ho20 he20 H'
            go_wp2_with fail
            go_loop [13] (fun i => ∃ j : Nat, i = .int .i64 j ∧ j ≤ G'.done.length) (fun i => G'.done.length - (intOf i).toNat)
            case atStart => exact ⟨0, rfl, Nat.zero_le _⟩
            case round =>
              obtain ⟨j, rfl, hj⟩ := hrel
              by_cases hlj : j < G'.done.length
              · obtain ⟨r, hr⟩ : ∃ r, G'.done[j]? = some r := ⟨G'.done[j], by simp [hlj]⟩
                obtain ⟨ad2, rfl, _, hat2⟩ := HR20.out j r hr
                obtain ⟨hm1, hm2⟩ := HO'.out.nums j r hr
                have hz0 : w20.cell? (ad2.add (j * 8)) = some (.int .i64 me) := by
                  have := hat2 0 _ (Record.get0 r)
                  rw [hm1] at this
                  exact this
                have hz1 : w20.cell? ⟨(ad2.add (j * 8)).block, (ad2.add (j * 8)).off + 1, none⟩ = some (.int .i64 ((j : Int) + 1)) := by
                  have := hat2 1 _ (Record.get1 r)
                  rw [hm2] at this
                  exact this
                clear hr hat2 hm1 hm2
                go_wp2
                go_round
                case rel => exact ⟨j + 1, by go_num, by omega⟩
                case measure => simp [intOf]; omega
              · cases ho9 : G'.isOpen with
                | true =>
                  have hn9 : G'.no = (G'.done.length : Int) + 1 := by have := HO'.out.no; rw [ho9] at this; simpa using this
                  have hne1 : (((G'.done.length : Int) + 1) != G.no) = false := by first | (rw [HA.out, hn9]; simp) | (rw [hn9]; simp)
                  have hne2 : (G'.no != ((G'.done.length : Int) + 1)) = false := by rw [hn9]; simp
                  have hne3 : (G'.me != me) = false := by rw [HO'.out.me]; simp
                  have HOP := Lib.hid ho9
                  clear ho9 hn9
                  go_wp2_with fail
                  obtain ⟨F8, hF8, _⟩ := H20.out.one
                  refine (client_open_b _ F8 gc _ true hF8 HOP.out).mono ?_
                  rintro e w21 ⟨rfl, rfl⟩
                  go_wp2_with fail
                  refine (client_send_open _ F8 gc _ hF8 HOP.out).mono ?_
                  rintro e w22 ⟨rfl, he22⟩
                  have H22 := Lib.hid (H20.out.step (he22.alloc (.cells (⟨false, G'.me, G'.no, G'.call, Answer.zero⟩ : Packet).cells 33)))
                  clear hF8 he22 H20
                  go_wp2_with fail
                  obtain ⟨F8, hF8, _⟩ := H22.out.one
                  refine (client_open_b _ F8 gc _ true hF8 HOP.out).mono ?_
                  rintro e w23 ⟨rfl, rfl⟩
                  clear hF8
                  go_wp2
                  go_roundw
                  case rel => exact ⟨k + 1, G', by go_num, by first | rw [HA.out] | rfl, by omega, HO'.out, H22.out⟩
                  case measure => simp [intOf]; omega
                | false =>
                  have hn9 : G'.no = (G'.done.length : Int) := by have := HO'.out.no; rw [ho9] at this; simpa using this
                  have hne1 : ((G'.done.length : Int) != G.no) = false := by first | (rw [HA.out, hn9]; simp) | (rw [hn9]; simp)
                  have HOP := Lib.hid ho9
                  clear ho9 hn9
                  go_wp2_with fail
                  obtain ⟨F8, hF8, _⟩ := H20.out.one
                  refine (client_open_b _ F8 gc _ false hF8 HOP.out).mono ?_
                  rintro e w21 ⟨rfl, rfl⟩
                  go_wp2_with fail
                  refine (client_send_shut _ F8 gc _ hF8 HOP.out).mono ?_
                  rintro e w22 ⟨rfl, he22⟩
                  have H22 := Lib.hid (H20.out.step (he22.alloc (.cells Packet.zero.cells 33)))
                  clear hF8 he22 H20
                  go_wp2_with fail
                  obtain ⟨F8, hF8, _⟩ := H22.out.one
                  refine (client_open_b _ F8 gc _ false hF8 HOP.out).mono ?_
                  rintro e w23 ⟨rfl, rfl⟩
                  clear hF8
                  go_wp2
                  go_roundw
                  case rel => exact ⟨k + 1, G', by go_num, by first | rw [HA.out] | rfl, by omega, HO'.out, H22.out⟩
                  case measure => simp [intOf]; omega
          · have hd2 : (x.do_ == 2) = false := beq_eq_false_iff_ne.2 h2
            have H' := H4
            have HO' := HO
            have HA := Lib.hid (show G.no = G.no from rfl)
            clear h2 H4 sa1 sa2 sa3
            generalize hgg : G = G' at H' HO' HA ⊢
            go_wp2_with fail
            obtain ⟨F9, hF9, _⟩ := H'.out.one
            refine (client_done' _ F9 gc G' hF9 (by have := gOk_done HO'.out; omega)).mono ?_
            rintro e w20 ⟨A20, c20, rfl, ho20, he20, _⟩
            have H20 := Lib.hid (H'.out.step he20)
            have HR20 := Lib.hid (Owns.reads ho20)
            have hd20 : G'.done.length ≤ 200 := gOk_done HO'.out
            clear hF9 ho20 he20 H'
            go_wp2_with fail
            go_loop [13] (fun i => ∃ j : Nat, i = .int .i64 j ∧ j ≤ G'.done.length) (fun i => G'.done.length - (intOf i).toNat)
            case atStart => exact ⟨0, rfl, Nat.zero_le _⟩
            case round =>
              obtain ⟨j, rfl, hj⟩ := hrel
              by_cases hlj : j < G'.done.length
              · obtain ⟨r, hr⟩ : ∃ r, G'.done[j]? = some r := ⟨G'.done[j], by simp [hlj]⟩
                obtain ⟨ad2, rfl, _, hat2⟩ := HR20.out j r hr
                obtain ⟨hm1, hm2⟩ := HO'.out.nums j r hr
                have hz0 : w20.cell? (ad2.add (j * 8)) = some (.int .i64 me) := by
                  have := hat2 0 _ (Record.get0 r)
                  rw [hm1] at this
                  exact this
                have hz1 : w20.cell? ⟨(ad2.add (j * 8)).block, (ad2.add (j * 8)).off + 1, none⟩ = some (.int .i64 ((j : Int) + 1)) := by
                  have := hat2 1 _ (Record.get1 r)
                  rw [hm2] at this
                  exact this
                clear hr hat2 hm1 hm2
                go_wp2
                go_round
                case rel => exact ⟨j + 1, by go_num, by omega⟩
                case measure => simp [intOf]; omega
              · cases ho9 : G'.isOpen with
                | true =>
                  have hn9 : G'.no = (G'.done.length : Int) + 1 := by have := HO'.out.no; rw [ho9] at this; simpa using this
                  have hne1 : (((G'.done.length : Int) + 1) != G'.no) = false := by first | (rw [HA.out, hn9]; simp) | (rw [hn9]; simp)
                  have hne2 : (G'.no != ((G'.done.length : Int) + 1)) = false := by rw [hn9]; simp
                  have hne3 : (G'.me != me) = false := by rw [HO'.out.me]; simp
                  have HOP := Lib.hid ho9
                  clear ho9 hn9
                  go_wp2_with fail
                  obtain ⟨F8, hF8, _⟩ := H20.out.one
                  refine (client_open_b _ F8 gc _ true hF8 HOP.out).mono ?_
                  rintro e w21 ⟨rfl, rfl⟩
                  go_wp2_with fail
                  refine (client_send_open _ F8 gc _ hF8 HOP.out).mono ?_
                  rintro e w22 ⟨rfl, he22⟩
                  have H22 := Lib.hid (H20.out.step (he22.alloc (.cells (⟨false, G'.me, G'.no, G'.call, Answer.zero⟩ : Packet).cells 33)))
                  clear hF8 he22 H20
                  go_wp2_with fail
                  obtain ⟨F8, hF8, _⟩ := H22.out.one
                  refine (client_open_b _ F8 gc _ true hF8 HOP.out).mono ?_
                  rintro e w23 ⟨rfl, rfl⟩
                  clear hF8
                  go_wp2
                  go_roundw
                  case rel => exact ⟨k + 1, G', by go_num, by first | rw [HA.out] | rfl, by omega, HO'.out, H22.out⟩
                  case measure => simp [intOf]; omega
                | false =>
                  have hn9 : G'.no = (G'.done.length : Int) := by have := HO'.out.no; rw [ho9] at this; simpa using this
                  have hne1 : ((G'.done.length : Int) != G'.no) = false := by first | (rw [HA.out, hn9]; simp) | (rw [hn9]; simp)
                  have HOP := Lib.hid ho9
                  clear ho9 hn9
                  go_wp2_with fail
                  obtain ⟨F8, hF8, _⟩ := H20.out.one
                  refine (client_open_b _ F8 gc _ false hF8 HOP.out).mono ?_
                  rintro e w21 ⟨rfl, rfl⟩
                  go_wp2_with fail
                  refine (client_send_shut _ F8 gc _ hF8 HOP.out).mono ?_
                  rintro e w22 ⟨rfl, he22⟩
                  have H22 := Lib.hid (H20.out.step (he22.alloc (.cells Packet.zero.cells 33)))
                  clear hF8 he22 H20
                  go_wp2_with fail
                  obtain ⟨F8, hF8, _⟩ := H22.out.one
                  refine (client_open_b _ F8 gc _ false hF8 HOP.out).mono ?_
                  rintro e w23 ⟨rfl, rfl⟩
                  clear hF8
                  go_wp2
                  go_roundw
                  case rel => exact ⟨k + 1, G', by go_num, by first | rw [HA.out] | rfl, by omega, HO'.out, H22.out⟩
                  case measure => simp [intOf]; omega
        · go_wp2
          go_ret
          exact ⟨rfl, H.out.ext⟩
end Go.Proofs.Ytalfbhhldfffkaa
