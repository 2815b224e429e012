/- Post6: the walks of package post and of the reference Bag, on. -/
import Derived.Test.YtalfbhhldfffkaaPost5
namespace Go.Proofs.Ytalfbhhldfffkaa
open Go.RowKit

theorem post_send_lt (w : World) (g : Nat) (v : Value) (l : List Packet) (m : Packet) (h : Holds w g 96 33 v l) (hl : l.length < 40) :
    Calls Try.prog 16 #[.pointer (some ⟨g, 0, none⟩), .agg m.cells] w fun e w' => e = .returned (.bool true) ∧ ∃ v', Holds w' g 96 33 v' (l ++ [m]) ∧ Touch (foot g v) w w' ∧ ∀ k, v'.ownBlock = some k → v.ownBlock = some k ∨ w.heap.size ≤ k :=
  (post_send w g v l m h).mono fun e w' hs => by rw [SendPost, if_pos hl] at hs; exact hs

set_option maxHeartbeats 1000000 in
set_option maxRecDepth 100000 in
theorem post_begun (w : World) : Calls Try.prog 14 #[] w fun e w' => e = .returned (.bool true) ∧ Ext w w' := by
  go_enter Try.func14, Try.ntmps14
  go_wp2_with fail
  refine (post_new _).mono ?_
  rintro e w1 ⟨rfl, rfl⟩
  have H1 := Lib.hid (Holds.new (α := Packet) w 96 33)
  have F1 := Lib.hid (foot_new w)
  have E1 := Lib.hid (show Ext w (w.alloc (.cells #[.slice none 0 0] 96)) from (Touch.refl _ w).alloc _)
  go_wp2_with fail
  refine (post_send_lt _ _ _ _ ⟨false, 0, 1, ⟨0, ⟨#[]⟩, ⟨#[]⟩, ⟨#[]⟩⟩, ⟨0, ⟨#[]⟩⟩⟩ H1.out (by simp)).mono ?_
  rintro e w2 ⟨rfl, v2, h2, t2, f2⟩
  have H2 := Lib.hid h2
  have E2 := Lib.hid (E1.out.touch t2 F1.out)
  have F2 := Lib.hid (foot_base F1.out E1.out.size f2)
  clear h2 t2 f2
  go_wp2_with fail
  refine (post_send_lt _ _ _ _ ⟨false, 0, 2, ⟨0, ⟨#[]⟩, ⟨#[]⟩, ⟨#[]⟩⟩, ⟨0, ⟨#[]⟩⟩⟩ H2.out (by simp)).mono ?_
  rintro e w3 ⟨rfl, v3, h3, t3, f3⟩
  have H3 := Lib.hid h3
  have E3 := Lib.hid (E2.out.touch t3 F2.out)
  have F3 := Lib.hid (foot_base F2.out E2.out.size f3)
  clear h3 t3 f3
  go_wp2_with fail
  refine (post_double _ _ _ _ 3 H3.out (by simp)).mono ?_
  rintro e w4 h4
  rcases h4 with ⟨h4, _⟩ | ⟨_, _, m, hm, rfl, v4, h4, t4, f4⟩
  · exact absurd h4 (by simp)
  have hm' : m = ⟨false, 0, 2, ⟨0, ⟨#[]⟩, ⟨#[]⟩, ⟨#[]⟩⟩, ⟨0, ⟨#[]⟩⟩⟩ := (Option.some.inj hm).symm
  subst hm'
  have H4 := Lib.hid h4
  have E4 := Lib.hid (E3.out.touch t4 F3.out)
  have F4 := Lib.hid (foot_base F3.out E3.out.size f4)
  clear h4 t4 f4 hm
  go_wp2_with fail
  refine (post_take _ _ _ _ 0 H4.out (by simp)).mono ?_
  rintro e w5 h5
  rcases h5 with ⟨h5, _⟩ | ⟨m, hm, rfl, v5, h5, t5, f5⟩
  · exact absurd h5 (by simp)
  have hm' : m = ⟨false, 0, 1, ⟨0, ⟨#[]⟩, ⟨#[]⟩, ⟨#[]⟩⟩, ⟨0, ⟨#[]⟩⟩⟩ := (Option.some.inj hm).symm
  subst hm'
  change Holds (α := Packet) _ _ _ _ _ [⟨false, 0, 2, ⟨0, ⟨#[]⟩, ⟨#[]⟩, ⟨#[]⟩⟩, ⟨0, ⟨#[]⟩⟩⟩, ⟨false, 0, 2, ⟨0, ⟨#[]⟩, ⟨#[]⟩, ⟨#[]⟩⟩, ⟨0, ⟨#[]⟩⟩⟩] at h5
  have H5 := Lib.hid h5
  have E5 := Lib.hid (E4.out.touch t5 F4.out)
  have F5 := Lib.hid (foot_base F4.out E4.out.size f5)
  clear h5 t5 f5 hm
  go_wp2_with fail
  refine (post_len _ _ _ _ (H5.out.ext ((Touch.refl _ w5).alloc _))).mono ?_
  rintro e w6 ⟨rfl, rfl⟩
  go_wp2_with fail
  refine (post_list _ _ _ _ (H5.out.ext ((Touch.refl _ w5).alloc _)) (by simp)).mono ?_
  rintro e w7 ⟨A7, c7, rfl, h7, e7, f7⟩
  have E7 := Lib.hid (E5.out.trans (((Touch.refl _ w5).alloc _).trans e7))
  clear h7 e7 f7
  go_wp2
  go_ret
  exact ⟨rfl, E7.out⟩
end Go.Proofs.Ytalfbhhldfffkaa
