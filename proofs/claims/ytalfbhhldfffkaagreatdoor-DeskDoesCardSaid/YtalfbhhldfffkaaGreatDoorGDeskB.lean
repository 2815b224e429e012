/- Desk7: the walk of the desk's ask. Printed by a program (d7.py): the same lines for each word. (And behind it: Desk8, Desk9, Desk10.) -/
import Derived.Test.YtalfbhhldfffkaaGreatDoorGDesk
import Derived.Test.YtalfbhhldfffkaaGreatDoorGDeskP
import Derived.Test.YtalfbhhldfffkaaGreatDoorGLine
set_option maxHeartbeats 8000000
set_option maxRecDepth 100000
namespace Go.Proofs.YtalfbhhldfffkaaGreatDoor
open Go.RowKit
def AskPost {X : Type} (S : Rep X) (x : X) (W : World) (gd gw : Nat) (t : List UInt8) (h : House) (q : Option (List UInt8 × House)) (e : Ending) (w' : World) : Prop :=
 (q = none /\ e = .returned (.bool false) /\ Has (TR S gd gw) W w' (x, (t, h))) \/ ∃ r, q = some r /\ e = .returned (.bool true) /\ Has (TR S gd gw) W w' (x, (t ++ r.1, r.2))
theorem cell_num {w : World} {B : Nat} {A : Option Addr} {m : List Int} (h : Reads w B A m) (hB : B <= w.heap.size) {k : Nat} {a : Int} (hk : m[k]? = some a) : ∃ ad, A = some ad /\ ∀ w', Ext w w' -> w'.cell? (ad.add k) = some (.int .i64 a) := by
 obtain ⟨ad, e, hb, hat⟩ := h k a hk;refine ⟨ad, e, fun w' hx => ?_⟩;have h1 := (hat.of_same (w' := w') (by rw [show (ad.add (k * Lies.size Int)).block = ad.block by unfold Addr.add; split <;> rfl]; exact hx.block _ (Nat.lt_of_lt_of_le hb hB) id)) 0 _ rfl
 have h2 : (ad.add (k * Lies.size Int)).add 0 = ad.add k := by
  show (ad.add (k * 1)).add 0 = _;rw [Nat.mul_one];unfold Addr.add;split <;> simp_all
 rwa [h2] at h1
theorem cell_num0 {w : World} {B : Nat} {A : Option Addr} {m : List Int} (h : Reads w B A m) (hB : B <= w.heap.size) {a : Int} (hk : m[0]? = some a) : ∃ ad, A = some ad /\ ∀ w', Ext w w' -> w'.cell? ad = some (.int .i64 a) := by
 obtain ⟨ad, e, h1⟩ := cell_num h hB hk;refine ⟨ad, e, fun w' hx => ?_⟩;have h2 : ad.add 0 = ad := by unfold Addr.add; split <;> simp_all
 have h3 := h1 w' hx;rwa [h2] at h3
theorem cell_num1 {w : World} {B : Nat} {A : Option Addr} {m : List Int} (h : Reads w B A m) (hB : B <= w.heap.size) {a : Int} (hk : m[1]? = some a) : ∃ ad, A = some ad /\ ∀ w', Ext w w' -> w'.cell? ⟨ad.block, ad.off + 1, none⟩ = some (.int .i64 a) := by
 obtain ⟨ad, e, h1⟩ := cell_num h hB hk;refine ⟨ad, e, fun w' hx => ?_⟩;have h2 : ad.add 1 = ⟨ad.block, ad.off + 1, none⟩ := by unfold Addr.add; simp
 have h3 := h1 w' hx;rwa [h2] at h3
theorem zeroStr : StrCall Call.zero := ⟨by decide, by decide, by decide⟩
theorem stepZ (K a : Int) {b : Int} (hb : I64 b) : StrWStep ⟨K, a, b, Call.zero⟩ := ⟨zeroStr, hb⟩
theorem eq_yes (a : List UInt8) : ((mkStr a).toList == a) = true := by rw [mkStr_toList]; simp
theorem eq_no {a b : List UInt8} (h : a ≠ b) : ((mkStr a).toList == b) = false := by rw [mkStr_toList]; simpa using h
theorem one_no {w : List UInt8} (h : 0 < oneKind w) : w ≠ wCrash /\ w ≠ wTear /\ w ≠ wCalm /\ w ≠ wPackets /\ w ≠ wDone /\ w ≠ wLog /\ w ≠ wThen := by
 unfold oneKind at h;split at h
 ·rename_i e; subst e; decide
 split at h
 ·rename_i e; subst e; decide
 split at h
 ·rename_i e; subst e; decide
 split at h
 ·rename_i e; subst e; decide
 ·omega
theorem nums_in {l : List (List UInt8)} {m : List Int} (h : numsOf l = some m) : ∀ a ∈ m, I64 a := by
 induction l generalizing m with
 | nil => simp only [numsOf] at h; injection h with h; subst h; intro a ha; simp at ha
 | cons s l ih =>
   simp only [numsOf] at h;cases h1 : numOf s with
   | none => rw [h1] at h; cases h
   | some n =>
     cases h2 : numsOf l with
     | none => rw [h1, h2] at h; cases h
     | some m' =>
       rw [h1, h2] at h;injection h with h;subst h;intro a ha;rcases List.mem_cons.1 ha with rfl | ha
       ·unfold numOf at h1;split at h1
        ·rename_i n hn;split at h1
         ·injection h1 with h1;subst h1;exact Lib.atoiAll_bounds hn
         ·cases h1
        ·cases h1
       ·exact ih h2 a ha
section
variable {X : Type} {S : Rep X} {x : X} {W w : World} {gd gw : Nat} {t : List UInt8} {h : House}
theorem ask_w1 (H : Has (TR S gd gw) W w (x, (t, h))) (hL : LaidD W) (hok : DeskOk h) (wl : List UInt8) (An : Option Addr) (nn cn : Nat) (m : List Int) (hn : nn = m.length) (hr : ∀ w' z, Has (TR S gd gw) W w' (x, z) -> Reads w' w'.heap.size An m) (hm : ∀ a ∈ m, I64 a) (ht : t.length <= 100000000) (h0 : 0 < oneKind wl) :
 Calls Tryz.prog 32 #[.pointer (some ⟨gd, 0, none⟩), .string (mkStr wl), .slice An nn cn] w (AskPost S x W gd gw t h (dAsk h wl m)) := by
 have hone := (ask_idx wl).2 h0;obtain ⟨n1, n2, n3, n4, n5, n6, n7⟩ := one_no h0;have qCrash : ((mkStr wl).toList == [99, 114, 97, 115, 104]) = false := eq_no n1;have qTear : ((mkStr wl).toList == [116, 101, 97, 114]) = false := eq_no n2;have qCalm : ((mkStr wl).toList == [99, 97, 108, 109]) = false := eq_no n3;have qPackets : ((mkStr wl).toList == [112, 97, 99, 107, 101, 116, 115]) = false := eq_no n4;have qDone : ((mkStr wl).toList == [100, 111, 110, 101]) = false := eq_no n5;have qLog : ((mkStr wl).toList == [108, 111, 103]) = false := eq_no n6;have qThen : ((mkStr wl).toList == [116, 104, 101, 110]) = false := eq_no n7;clear n1 n2 n3 n4 n5 n6 n7;subst hn;have HL := lh hL;have HOK := lh hok;have HX := lh (show Ext w (w.alloc (.cells (askL.map Value.string).toArray 9)) from (Touch.refl _ w).alloc _);have H1 := lh (H.step HX.out);have ho1 : Owns (w.alloc (.cells (askL.map Value.string).toArray 9)) 9 (.slice (some ⟨w.heap.size, 0, none⟩) askL.length askL.length) askL := own_texts askL (heap_alloc_new _ _) rfl (by decide);have HO := lh ho1;clear H hL hok ho1;go_enter Tryz.func32, Tryz.ntmps32
 go_wp2_with fail
 refine (index_texts (w.alloc (.cells (askL.map Value.string).toArray 9)) _ _ _ askL (mkStr wl) HO.out.reads (by decide)).mono ?_;rintro e w' ⟨rfl, rfl⟩;generalize w.alloc (.cells (askL.map Value.string).toArray 9) = w1 at *;clear HO;have hds := tell_ds H1.out;rw [hone];clear hone;have HK := lh (show dAsk h wl m = dAsk h wl m from rfl);by_cases h1 : m.length = 1
 ·obtain ⟨a, rfl⟩ : ∃ a, m = [a] := List.length_eq_one_iff.1 h1;have HA := lh (ask_one h [a] h0 h1);have ha := hm a (by simp);obtain ⟨ad, rfl, hc'⟩ := cell_num0 (hr _ _ H1.out) (Nat.le_refl _) (a := a) rfl;have hc0 := hc' w1 (Touch.refl _ _);generalize oneKind wl = K at *;clear hc' h1 hr HK;go_wp2_with fail
  refine (desk_step H1.out HL.out HOK.out ⟨K, a, 0, Call.zero⟩ (stepZ _ _ ⟨by decide, by decide⟩) ht).mono ?_;rintro e w2 ⟨rfl, H2⟩;have HR := lh H2;clear H2;go_wp2
  go_ret
  exact .inr ⟨_, HA.out, rfl, HR.out⟩
 ·have HA := lh (ask_one_no h m h0 h1);have hnn : ((m.length : Int) == 1) = false := bF (by omega);generalize oneKind wl = K at *;clear h1 hr HK;go_wp2
  go_ret
  exact .inl ⟨HA.out, rfl, H1.out⟩
theorem desk_done_any (H : Has (TR S gd gw) W w (x, (t, h))) (hL : LaidD W) (hok : DeskOk h) (n : Int) (ht : t.length <= 100000000) :
 Calls Tryz.prog 59 #[.pointer (some ⟨gd, 0, none⟩), .int .i64 n] w (Tells S x W gd gw (t ++ (if 0 <= n /\ n < 3 then (h.G n.toNat).done.flatMap recTxt ++ say [wEnd] else dCode 9), h) (.tuple #[])) := by
 by_cases hn : 0 <= n /\ n < 3
 ·rw [if_pos hn];exact desk_done H hL hok n hn ht
 ·rw [if_neg hn];exact desk_done_no H hL n hn ht
theorem calm_say (h : House) : say ([(⟨#[99, 97, 108, 109]⟩ : ByteArray), mkStr (Lib.itoa (hCalm h).1)].map (·.toList)) = say [wCalm, Lib.itoa (hCalm h).1] := by
 simp [mkStr_toList, wCalm]
theorem ask_wCrash (H : Has (TR S gd gw) W w (x, (t, h))) (hL : LaidD W) (hok : DeskOk h) (An : Option Addr) (nn cn : Nat) (m : List Int) (hn : nn = m.length) (hr : ∀ w' z, Has (TR S gd gw) W w' (x, z) -> Reads w' w'.heap.size An m) (hm : ∀ a ∈ m, I64 a) (ht : t.length <= 100000000) :
 Calls Tryz.prog 32 #[.pointer (some ⟨gd, 0, none⟩), .string (mkStr wCrash), .slice An nn cn] w (AskPost S x W gd gw t h (dAsk h wCrash m)) := by
 have hone : ¬ 0 < idxOf askL (mkStr wCrash) := by decide
 have qCrash : ((mkStr wCrash).toList == [99, 114, 97, 115, 104]) = true := eq_yes wCrash;have qTear : ((mkStr wCrash).toList == [116, 101, 97, 114]) = false := eq_no (a := wCrash) (b := wTear) (by decide);have qCalm : ((mkStr wCrash).toList == [99, 97, 108, 109]) = false := eq_no (a := wCrash) (b := wCalm) (by decide);have qPackets : ((mkStr wCrash).toList == [112, 97, 99, 107, 101, 116, 115]) = false := eq_no (a := wCrash) (b := wPackets) (by decide);have qDone : ((mkStr wCrash).toList == [100, 111, 110, 101]) = false := eq_no (a := wCrash) (b := wDone) (by decide);have qLog : ((mkStr wCrash).toList == [108, 111, 103]) = false := eq_no (a := wCrash) (b := wLog) (by decide);have qThen : ((mkStr wCrash).toList == [116, 104, 101, 110]) = false := eq_no (a := wCrash) (b := wThen) (by decide);have HWL := lh (show wCrash = wCrash from rfl);generalize hwl : wCrash = wl at *;subst hn;have HL := lh hL;have HOK := lh hok;have HX := lh (show Ext w (w.alloc (.cells (askL.map Value.string).toArray 9)) from (Touch.refl _ w).alloc _);have H1 := lh (H.step HX.out);have ho1 : Owns (w.alloc (.cells (askL.map Value.string).toArray 9)) 9 (.slice (some ⟨w.heap.size, 0, none⟩) askL.length askL.length) askL := own_texts askL (heap_alloc_new _ _) rfl (by decide);have HO := lh ho1;clear H hL hok ho1;go_enter Tryz.func32, Tryz.ntmps32
 go_wp2_with fail
 refine (index_texts (w.alloc (.cells (askL.map Value.string).toArray 9)) _ _ _ askL (mkStr wl) HO.out.reads (by decide)).mono ?_;rintro e w' ⟨rfl, rfl⟩;generalize w.alloc (.cells (askL.map Value.string).toArray 9) = w1 at *;clear HO;have hds := tell_ds H1.out;generalize idxOf askL (mkStr wl) = one at *;by_cases h1 : m.length = 0
 ·obtain rfl : m = [] := List.eq_nil_of_length_eq_zero h1;have HA := lh (ask_crash h);rw [hwl] at HA;have hwl' := lh hwl;clear h1 hwl;go_wp2_with fail
  refine (desk_step H1.out HL.out HOK.out ⟨6, 0, 0, Call.zero⟩ (stepZ _ _ ⟨by decide, by decide⟩) ht).mono ?_;rintro e w2 ⟨rfl, H2⟩;have HR := lh H2;clear H2;go_wp2
  go_ret
  exact .inr ⟨_, HA.out, rfl, HR.out⟩
 ·have HA := lh (ask_crash_no h m h1);rw [hwl] at HA;have hnn : ((m.length : Int) == 0) = false := bF (by omega);have v2 : decide ((m.length : Int) = 0) = false := decide_eq_false (by omega);have v3 : ¬ ((m.length : Int) = 0) := by omega
  have v4 : (m.length == 0) = false := bF (by omega);have v5 : decide (m.length = 0) = false := decide_eq_false (by omega);clear h1 hr hwl;go_wp2
  go_ret
  exact .inl ⟨HA.out, rfl, H1.out⟩
theorem ask_wTear (H : Has (TR S gd gw) W w (x, (t, h))) (hL : LaidD W) (hok : DeskOk h) (An : Option Addr) (nn cn : Nat) (m : List Int) (hn : nn = m.length) (hr : ∀ w' z, Has (TR S gd gw) W w' (x, z) -> Reads w' w'.heap.size An m) (hm : ∀ a ∈ m, I64 a) (ht : t.length <= 100000000) :
 Calls Tryz.prog 32 #[.pointer (some ⟨gd, 0, none⟩), .string (mkStr wTear), .slice An nn cn] w (AskPost S x W gd gw t h (dAsk h wTear m)) := by
 have hone : ¬ 0 < idxOf askL (mkStr wTear) := by decide
 have qCrash : ((mkStr wTear).toList == [99, 114, 97, 115, 104]) = false := eq_no (a := wTear) (b := wCrash) (by decide);have qTear : ((mkStr wTear).toList == [116, 101, 97, 114]) = true := eq_yes wTear;have qCalm : ((mkStr wTear).toList == [99, 97, 108, 109]) = false := eq_no (a := wTear) (b := wCalm) (by decide);have qPackets : ((mkStr wTear).toList == [112, 97, 99, 107, 101, 116, 115]) = false := eq_no (a := wTear) (b := wPackets) (by decide);have qDone : ((mkStr wTear).toList == [100, 111, 110, 101]) = false := eq_no (a := wTear) (b := wDone) (by decide);have qLog : ((mkStr wTear).toList == [108, 111, 103]) = false := eq_no (a := wTear) (b := wLog) (by decide);have qThen : ((mkStr wTear).toList == [116, 104, 101, 110]) = false := eq_no (a := wTear) (b := wThen) (by decide);have HWL := lh (show wTear = wTear from rfl);generalize hwl : wTear = wl at *;subst hn;have HL := lh hL;have HOK := lh hok;have HX := lh (show Ext w (w.alloc (.cells (askL.map Value.string).toArray 9)) from (Touch.refl _ w).alloc _);have H1 := lh (H.step HX.out);have ho1 : Owns (w.alloc (.cells (askL.map Value.string).toArray 9)) 9 (.slice (some ⟨w.heap.size, 0, none⟩) askL.length askL.length) askL := own_texts askL (heap_alloc_new _ _) rfl (by decide);have HO := lh ho1;clear H hL hok ho1;go_enter Tryz.func32, Tryz.ntmps32
 go_wp2_with fail
 refine (index_texts (w.alloc (.cells (askL.map Value.string).toArray 9)) _ _ _ askL (mkStr wl) HO.out.reads (by decide)).mono ?_;rintro e w' ⟨rfl, rfl⟩;generalize w.alloc (.cells (askL.map Value.string).toArray 9) = w1 at *;clear HO;have hds := tell_ds H1.out;generalize idxOf askL (mkStr wl) = one at *;by_cases h1 : m.length = 2
 ·obtain ⟨a, b, rfl⟩ : ∃ a b, m = [a, b] := by match m, h1 with | [a, b], _ => exact ⟨a, b, rfl⟩
  have HA := lh (ask_tear h a b);rw [hwl] at HA;have hwl' := lh hwl;clear h1 hwl;obtain ⟨ad, e, hc'⟩ := cell_num0 (hr _ _ H1.out) (Nat.le_refl _) (a := a) rfl;subst e;obtain ⟨ad', e, hd'⟩ := cell_num1 (hr _ _ H1.out) (Nat.le_refl _) (a := b) rfl;injection e with e;subst e;have hb := hm b (by simp);have HC := lh (fun w' (hw' : Ext w1 w') => hc' w' hw');have HD := lh (fun w' (hw' : Ext w1 w') => hd' w' hw');clear hc' hd';go_wp2_with fail
  refine wp_region_held_drew (S := fun w' => w'.cell? ad = some (.int .i64 a) /\ w'.cell? ⟨ad.block, ad.off + 1, none⟩ = some (.int .i64 b)) (by kernel_rfl) ⟨HC.out _ (Touch.drew (Touch.refl _ w1)), HD.out _ (Touch.drew (Touch.refl _ w1))⟩ (fun hHeld => ?_);refine tK 0 ?_;try simp only [pS]
  refine tK 1 ?_;try simp only [pS]
  refine tK 4 ?_;try simp only [pS]
  refine tK 2 ?_;try simp only [pS]
  refine tK 5 ?_;try simp only [pS]
  refine tK 3 ?_ (hY := fun w' hw' => by
   have hg := hw'.1;go_simp;try with_reducible rfl)
  try simp only [pS]
  refine tK 6 ?_ (hY := fun w' hw' => by
   have hg := hw'.2;go_simp;try with_reducible rfl)
  try simp only [pS]
  refine tK 7 ?_;try simp only [pS]
  refine tC 8 fun K hK => ?_;go_simp;go_at_call 28
  refine (desk_step (H1.out.step (Touch.drew (Touch.refl _ w1))) HL.out HOK.out ⟨7, a, b, Call.zero⟩ (stepZ _ _ hb) ht).mono ?_;rintro e w2 ⟨rfl, H2⟩;have HR := lh H2;have hr2 := hr _ _ H2;obtain ⟨_, e, h5⟩ := cell_num0 hr2 (Nat.le_refl _) (a := a) rfl;injection e with e;subst e;obtain ⟨_, e, h6⟩ := cell_num1 hr2 (Nat.le_refl _) (a := b) rfl;injection e with e;subst e;refine hK.out _ _ ⟨h5 w2 (Touch.refl _ _), h6 w2 (Touch.refl _ _)⟩ (fun hHeld => ?_);clear hr2 h5 h6;clear H2;clear hK K;try simp only [pS]
  refine tD ?_;clear hHeld;go_wp2
  go_ret
  exact .inr ⟨_, HA.out, rfl, HR.out⟩
 ·have HA := lh (ask_tear_no h m h1);rw [hwl] at HA;have hnn : ((m.length : Int) == 2) = false := bF (by omega);have v2 : decide ((m.length : Int) = 2) = false := decide_eq_false (by omega);have v3 : ¬ ((m.length : Int) = 2) := by omega
  have v4 : (m.length == 2) = false := bF (by omega);have v5 : decide (m.length = 2) = false := decide_eq_false (by omega);clear h1 hr hwl;go_wp2
  go_ret
  exact .inl ⟨HA.out, rfl, H1.out⟩
theorem ask_wCalm (H : Has (TR S gd gw) W w (x, (t, h))) (hL : LaidD W) (hok : DeskOk h) (An : Option Addr) (nn cn : Nat) (m : List Int) (hn : nn = m.length) (hr : ∀ w' z, Has (TR S gd gw) W w' (x, z) -> Reads w' w'.heap.size An m) (hm : ∀ a ∈ m, I64 a) (ht : t.length <= 100000000) :
 Calls Tryz.prog 32 #[.pointer (some ⟨gd, 0, none⟩), .string (mkStr wCalm), .slice An nn cn] w (AskPost S x W gd gw t h (dAsk h wCalm m)) := by
 have hone : ¬ 0 < idxOf askL (mkStr wCalm) := by decide
 have qCrash : ((mkStr wCalm).toList == [99, 114, 97, 115, 104]) = false := eq_no (a := wCalm) (b := wCrash) (by decide);have qTear : ((mkStr wCalm).toList == [116, 101, 97, 114]) = false := eq_no (a := wCalm) (b := wTear) (by decide);have qCalm : ((mkStr wCalm).toList == [99, 97, 108, 109]) = true := eq_yes wCalm;have qPackets : ((mkStr wCalm).toList == [112, 97, 99, 107, 101, 116, 115]) = false := eq_no (a := wCalm) (b := wPackets) (by decide);have qDone : ((mkStr wCalm).toList == [100, 111, 110, 101]) = false := eq_no (a := wCalm) (b := wDone) (by decide);have qLog : ((mkStr wCalm).toList == [108, 111, 103]) = false := eq_no (a := wCalm) (b := wLog) (by decide);have qThen : ((mkStr wCalm).toList == [116, 104, 101, 110]) = false := eq_no (a := wCalm) (b := wThen) (by decide);have HWL := lh (show wCalm = wCalm from rfl);generalize hwl : wCalm = wl at *;subst hn;have HL := lh hL;have HOK := lh hok;have HX := lh (show Ext w (w.alloc (.cells (askL.map Value.string).toArray 9)) from (Touch.refl _ w).alloc _);have H1 := lh (H.step HX.out);have ho1 : Owns (w.alloc (.cells (askL.map Value.string).toArray 9)) 9 (.slice (some ⟨w.heap.size, 0, none⟩) askL.length askL.length) askL := own_texts askL (heap_alloc_new _ _) rfl (by decide);have HO := lh ho1;clear H hL hok ho1;go_enter Tryz.func32, Tryz.ntmps32
 go_wp2_with fail
 refine (index_texts (w.alloc (.cells (askL.map Value.string).toArray 9)) _ _ _ askL (mkStr wl) HO.out.reads (by decide)).mono ?_;rintro e w' ⟨rfl, rfl⟩;generalize w.alloc (.cells (askL.map Value.string).toArray 9) = w1 at *;clear HO;have hds := tell_ds H1.out;generalize idxOf askL (mkStr wl) = one at *;by_cases h1 : m.length = 0
 ·obtain rfl : m = [] := List.eq_nil_of_length_eq_zero h1;have HA := lh (ask_calm h);rw [hwl] at HA;have hwl' := lh hwl;clear h1 hwl;obtain ⟨fr, hfr⟩ := HOK.out.1;obtain ⟨F2, hF2, hm2⟩ := tell_world H1.out;have hca := hCalm_le h;go_wp2_with fail
  refine (world_calm w1 gw F2 h fr hF2 hfr).mono ?_;rintro e w2 ⟨rfl, hq2⟩;have H2 := lh (hm2 _ _ hq2);clear hF2 hm2 hq2 H1 hds hfr;have hn64 : Num64 ((hCalm h).1 : Int) := ⟨by omega, by omega⟩
  have HSY := lh (calm_say h);generalize (hCalm h).2 = h' at *;generalize (hCalm h).1 = c at *;go_wp2_with fail
  refine (desk_num w2 c hn64 (HL.out.ext H2.out.ext).laid).mono ?_;rintro e w3 ⟨rfl, hx3⟩;have H3 := lh (H2.out.step hx3);clear hx3 H2;go_wp2_with fail
  refine (say_lit H3.out [⟨#[99, 97, 108, 109]⟩, mkStr (Lib.itoa c)] (by simp) (two_len _ _ hn64 (by decide)) (by omega) rfl rfl (HSY.out.trans (congrArg (fun u => say [u, Lib.itoa c]) hwl'.out))).mono ?_;rintro e w4 ⟨rfl, H4⟩;have HR := lh H4;clear H4;go_wp2
  go_ret
  exact .inr ⟨_, HA.out, rfl, HR.out⟩
 ·have HA := lh (ask_calm_no h m h1);rw [hwl] at HA;have hnn : ((m.length : Int) == 0) = false := bF (by omega);have v2 : decide ((m.length : Int) = 0) = false := decide_eq_false (by omega);have v3 : ¬ ((m.length : Int) = 0) := by omega
  have v4 : (m.length == 0) = false := bF (by omega);have v5 : decide (m.length = 0) = false := decide_eq_false (by omega);clear h1 hr hwl;go_wp2
  go_ret
  exact .inl ⟨HA.out, rfl, H1.out⟩
theorem ask_wPackets (H : Has (TR S gd gw) W w (x, (t, h))) (hL : LaidD W) (hok : DeskOk h) (An : Option Addr) (nn cn : Nat) (m : List Int) (hn : nn = m.length) (hr : ∀ w' z, Has (TR S gd gw) W w' (x, z) -> Reads w' w'.heap.size An m) (hm : ∀ a ∈ m, I64 a) (ht : t.length <= 100000000) :
 Calls Tryz.prog 32 #[.pointer (some ⟨gd, 0, none⟩), .string (mkStr wPackets), .slice An nn cn] w (AskPost S x W gd gw t h (dAsk h wPackets m)) := by
 have hone : ¬ 0 < idxOf askL (mkStr wPackets) := by decide
 have qCrash : ((mkStr wPackets).toList == [99, 114, 97, 115, 104]) = false := eq_no (a := wPackets) (b := wCrash) (by decide);have qTear : ((mkStr wPackets).toList == [116, 101, 97, 114]) = false := eq_no (a := wPackets) (b := wTear) (by decide);have qCalm : ((mkStr wPackets).toList == [99, 97, 108, 109]) = false := eq_no (a := wPackets) (b := wCalm) (by decide);have qPackets : ((mkStr wPackets).toList == [112, 97, 99, 107, 101, 116, 115]) = true := eq_yes wPackets;have qDone : ((mkStr wPackets).toList == [100, 111, 110, 101]) = false := eq_no (a := wPackets) (b := wDone) (by decide);have qLog : ((mkStr wPackets).toList == [108, 111, 103]) = false := eq_no (a := wPackets) (b := wLog) (by decide);have qThen : ((mkStr wPackets).toList == [116, 104, 101, 110]) = false := eq_no (a := wPackets) (b := wThen) (by decide);have HWL := lh (show wPackets = wPackets from rfl);generalize hwl : wPackets = wl at *;subst hn;have HL := lh hL;have HOK := lh hok;have HX := lh (show Ext w (w.alloc (.cells (askL.map Value.string).toArray 9)) from (Touch.refl _ w).alloc _);have H1 := lh (H.step HX.out);have ho1 : Owns (w.alloc (.cells (askL.map Value.string).toArray 9)) 9 (.slice (some ⟨w.heap.size, 0, none⟩) askL.length askL.length) askL := own_texts askL (heap_alloc_new _ _) rfl (by decide);have HO := lh ho1;clear H hL hok ho1;go_enter Tryz.func32, Tryz.ntmps32
 go_wp2_with fail
 refine (index_texts (w.alloc (.cells (askL.map Value.string).toArray 9)) _ _ _ askL (mkStr wl) HO.out.reads (by decide)).mono ?_;rintro e w' ⟨rfl, rfl⟩;generalize w.alloc (.cells (askL.map Value.string).toArray 9) = w1 at *;clear HO;have hds := tell_ds H1.out;generalize idxOf askL (mkStr wl) = one at *;by_cases h1 : m.length = 0
 ·obtain rfl : m = [] := List.eq_nil_of_length_eq_zero h1;have HA := lh (ask_packets h);rw [hwl] at HA;have hwl' := lh hwl;clear h1 hwl;go_wp2_with fail
  refine (desk_packets H1.out HL.out HOK.out ht).mono ?_;rintro e w2 ⟨rfl, H2⟩;have HR := lh H2;clear H2;go_wp2
  go_ret
  exact .inr ⟨_, HA.out, rfl, HR.out⟩
 ·have HA := lh (ask_packets_no h m h1);rw [hwl] at HA;have hnn : ((m.length : Int) == 0) = false := bF (by omega);have v2 : decide ((m.length : Int) = 0) = false := decide_eq_false (by omega);have v3 : ¬ ((m.length : Int) = 0) := by omega
  have v4 : (m.length == 0) = false := bF (by omega);have v5 : decide (m.length = 0) = false := decide_eq_false (by omega);clear h1 hr hwl;go_wp2
  go_ret
  exact .inl ⟨HA.out, rfl, H1.out⟩
theorem ask_wDone (H : Has (TR S gd gw) W w (x, (t, h))) (hL : LaidD W) (hok : DeskOk h) (An : Option Addr) (nn cn : Nat) (m : List Int) (hn : nn = m.length) (hr : ∀ w' z, Has (TR S gd gw) W w' (x, z) -> Reads w' w'.heap.size An m) (hm : ∀ a ∈ m, I64 a) (ht : t.length <= 100000000) :
 Calls Tryz.prog 32 #[.pointer (some ⟨gd, 0, none⟩), .string (mkStr wDone), .slice An nn cn] w (AskPost S x W gd gw t h (dAsk h wDone m)) := by
 have hone : ¬ 0 < idxOf askL (mkStr wDone) := by decide
 have qCrash : ((mkStr wDone).toList == [99, 114, 97, 115, 104]) = false := eq_no (a := wDone) (b := wCrash) (by decide);have qTear : ((mkStr wDone).toList == [116, 101, 97, 114]) = false := eq_no (a := wDone) (b := wTear) (by decide);have qCalm : ((mkStr wDone).toList == [99, 97, 108, 109]) = false := eq_no (a := wDone) (b := wCalm) (by decide);have qPackets : ((mkStr wDone).toList == [112, 97, 99, 107, 101, 116, 115]) = false := eq_no (a := wDone) (b := wPackets) (by decide);have qDone : ((mkStr wDone).toList == [100, 111, 110, 101]) = true := eq_yes wDone;have qLog : ((mkStr wDone).toList == [108, 111, 103]) = false := eq_no (a := wDone) (b := wLog) (by decide);have qThen : ((mkStr wDone).toList == [116, 104, 101, 110]) = false := eq_no (a := wDone) (b := wThen) (by decide);have HWL := lh (show wDone = wDone from rfl);generalize hwl : wDone = wl at *;subst hn;have HL := lh hL;have HOK := lh hok;have HX := lh (show Ext w (w.alloc (.cells (askL.map Value.string).toArray 9)) from (Touch.refl _ w).alloc _);have H1 := lh (H.step HX.out);have ho1 : Owns (w.alloc (.cells (askL.map Value.string).toArray 9)) 9 (.slice (some ⟨w.heap.size, 0, none⟩) askL.length askL.length) askL := own_texts askL (heap_alloc_new _ _) rfl (by decide);have HO := lh ho1;clear H hL hok ho1;go_enter Tryz.func32, Tryz.ntmps32
 go_wp2_with fail
 refine (index_texts (w.alloc (.cells (askL.map Value.string).toArray 9)) _ _ _ askL (mkStr wl) HO.out.reads (by decide)).mono ?_;rintro e w' ⟨rfl, rfl⟩;generalize w.alloc (.cells (askL.map Value.string).toArray 9) = w1 at *;clear HO;have hds := tell_ds H1.out;generalize idxOf askL (mkStr wl) = one at *;by_cases h1 : m.length = 1
 ·obtain ⟨a, rfl⟩ : ∃ a, m = [a] := List.length_eq_one_iff.1 h1;have HA := lh (ask_done h a);rw [hwl] at HA;have hwl' := lh hwl;clear h1 hwl;obtain ⟨ad, rfl, hc'⟩ := cell_num0 (hr _ _ H1.out) (Nat.le_refl _) (a := a) rfl;have hc0 := hc' w1 (Touch.refl _ _);have HDN := lh (desk_done_any (H := H1.out) (hL := HL.out) (hok := HOK.out) a ht);clear hc';go_wp2_with fail
  refine HDN.out.mono ?_;rintro e w2 ⟨rfl, H2⟩;have HR := lh H2;clear H2;go_wp2
  go_ret
  exact .inr ⟨_, HA.out, rfl, HR.out⟩
 ·have HA := lh (ask_done_no h m h1);rw [hwl] at HA;have hnn : ((m.length : Int) == 1) = false := bF (by omega);have v2 : decide ((m.length : Int) = 1) = false := decide_eq_false (by omega);have v3 : ¬ ((m.length : Int) = 1) := by omega
  have v4 : (m.length == 1) = false := bF (by omega);have v5 : decide (m.length = 1) = false := decide_eq_false (by omega);clear h1 hr hwl;go_wp2
  go_ret
  exact .inl ⟨HA.out, rfl, H1.out⟩
theorem ask_wLog (H : Has (TR S gd gw) W w (x, (t, h))) (hL : LaidD W) (hok : DeskOk h) (An : Option Addr) (nn cn : Nat) (m : List Int) (hn : nn = m.length) (hr : ∀ w' z, Has (TR S gd gw) W w' (x, z) -> Reads w' w'.heap.size An m) (hm : ∀ a ∈ m, I64 a) (ht : t.length <= 100000000) :
 Calls Tryz.prog 32 #[.pointer (some ⟨gd, 0, none⟩), .string (mkStr wLog), .slice An nn cn] w (AskPost S x W gd gw t h (dAsk h wLog m)) := by
 have hone : ¬ 0 < idxOf askL (mkStr wLog) := by decide
 have qCrash : ((mkStr wLog).toList == [99, 114, 97, 115, 104]) = false := eq_no (a := wLog) (b := wCrash) (by decide);have qTear : ((mkStr wLog).toList == [116, 101, 97, 114]) = false := eq_no (a := wLog) (b := wTear) (by decide);have qCalm : ((mkStr wLog).toList == [99, 97, 108, 109]) = false := eq_no (a := wLog) (b := wCalm) (by decide);have qPackets : ((mkStr wLog).toList == [112, 97, 99, 107, 101, 116, 115]) = false := eq_no (a := wLog) (b := wPackets) (by decide);have qDone : ((mkStr wLog).toList == [100, 111, 110, 101]) = false := eq_no (a := wLog) (b := wDone) (by decide);have qLog : ((mkStr wLog).toList == [108, 111, 103]) = true := eq_yes wLog;have qThen : ((mkStr wLog).toList == [116, 104, 101, 110]) = false := eq_no (a := wLog) (b := wThen) (by decide);have HWL := lh (show wLog = wLog from rfl);generalize hwl : wLog = wl at *;subst hn;have HL := lh hL;have HOK := lh hok;have HX := lh (show Ext w (w.alloc (.cells (askL.map Value.string).toArray 9)) from (Touch.refl _ w).alloc _);have H1 := lh (H.step HX.out);have ho1 : Owns (w.alloc (.cells (askL.map Value.string).toArray 9)) 9 (.slice (some ⟨w.heap.size, 0, none⟩) askL.length askL.length) askL := own_texts askL (heap_alloc_new _ _) rfl (by decide);have HO := lh ho1;clear H hL hok ho1;go_enter Tryz.func32, Tryz.ntmps32
 go_wp2_with fail
 refine (index_texts (w.alloc (.cells (askL.map Value.string).toArray 9)) _ _ _ askL (mkStr wl) HO.out.reads (by decide)).mono ?_;rintro e w' ⟨rfl, rfl⟩;generalize w.alloc (.cells (askL.map Value.string).toArray 9) = w1 at *;clear HO;have hds := tell_ds H1.out;generalize idxOf askL (mkStr wl) = one at *;by_cases h1 : m.length = 0
 ·obtain rfl : m = [] := List.eq_nil_of_length_eq_zero h1;have HA := lh (ask_log h);rw [hwl] at HA;have hwl' := lh hwl;clear h1 hwl;go_wp2_with fail
  refine (desk_log H1.out HL.out HOK.out ht).mono ?_;rintro e w2 ⟨rfl, H2⟩;have HR := lh H2;clear H2;go_wp2
  go_ret
  exact .inr ⟨_, HA.out, rfl, HR.out⟩
 ·have HA := lh (ask_log_no h m h1);rw [hwl] at HA;have hnn : ((m.length : Int) == 0) = false := bF (by omega);have v2 : decide ((m.length : Int) = 0) = false := decide_eq_false (by omega);have v3 : ¬ ((m.length : Int) = 0) := by omega
  have v4 : (m.length == 0) = false := bF (by omega);have v5 : decide (m.length = 0) = false := decide_eq_false (by omega);clear h1 hr hwl;go_wp2
  go_ret
  exact .inl ⟨HA.out, rfl, H1.out⟩
theorem ask_wThen (H : Has (TR S gd gw) W w (x, (t, h))) (hL : LaidD W) (hok : DeskOk h) (An : Option Addr) (nn cn : Nat) (m : List Int) (hn : nn = m.length) (hr : ∀ w' z, Has (TR S gd gw) W w' (x, z) -> Reads w' w'.heap.size An m) (hm : ∀ a ∈ m, I64 a) (ht : t.length <= 100000000) :
 Calls Tryz.prog 32 #[.pointer (some ⟨gd, 0, none⟩), .string (mkStr wThen), .slice An nn cn] w (AskPost S x W gd gw t h (dAsk h wThen m)) := by
 have hone : ¬ 0 < idxOf askL (mkStr wThen) := by decide
 have qCrash : ((mkStr wThen).toList == [99, 114, 97, 115, 104]) = false := eq_no (a := wThen) (b := wCrash) (by decide);have qTear : ((mkStr wThen).toList == [116, 101, 97, 114]) = false := eq_no (a := wThen) (b := wTear) (by decide);have qCalm : ((mkStr wThen).toList == [99, 97, 108, 109]) = false := eq_no (a := wThen) (b := wCalm) (by decide);have qPackets : ((mkStr wThen).toList == [112, 97, 99, 107, 101, 116, 115]) = false := eq_no (a := wThen) (b := wPackets) (by decide);have qDone : ((mkStr wThen).toList == [100, 111, 110, 101]) = false := eq_no (a := wThen) (b := wDone) (by decide);have qLog : ((mkStr wThen).toList == [108, 111, 103]) = false := eq_no (a := wThen) (b := wLog) (by decide);have qThen : ((mkStr wThen).toList == [116, 104, 101, 110]) = true := eq_yes wThen;have HWL := lh (show wThen = wThen from rfl);generalize hwl : wThen = wl at *;subst hn;have HL := lh hL;have HOK := lh hok;have HX := lh (show Ext w (w.alloc (.cells (askL.map Value.string).toArray 9)) from (Touch.refl _ w).alloc _);have H1 := lh (H.step HX.out);have ho1 : Owns (w.alloc (.cells (askL.map Value.string).toArray 9)) 9 (.slice (some ⟨w.heap.size, 0, none⟩) askL.length askL.length) askL := own_texts askL (heap_alloc_new _ _) rfl (by decide);have HO := lh ho1;clear H hL hok ho1;go_enter Tryz.func32, Tryz.ntmps32
 go_wp2_with fail
 refine (index_texts (w.alloc (.cells (askL.map Value.string).toArray 9)) _ _ _ askL (mkStr wl) HO.out.reads (by decide)).mono ?_;rintro e w' ⟨rfl, rfl⟩;generalize w.alloc (.cells (askL.map Value.string).toArray 9) = w1 at *;clear HO;have hds := tell_ds H1.out;generalize idxOf askL (mkStr wl) = one at *;by_cases h1 : m.length = 1
 ·obtain ⟨a, rfl⟩ : ∃ a, m = [a] := List.length_eq_one_iff.1 h1;have HA := lh (ask_then h a);rw [hwl] at HA;have hwl' := lh hwl;clear h1 hwl;obtain ⟨ad, rfl, hc'⟩ := cell_num0 (hr _ _ H1.out) (Nat.le_refl _) (a := a) rfl;have hc0 := hc' w1 (Touch.refl _ _);clear hc';go_wp2_with fail
  refine (desk_then H1.out HL.out HOK.out a ht _ rfl).mono ?_;rintro e w2 ⟨rfl, H2⟩;have HR := lh H2;clear H2;go_wp2
  go_ret
  exact .inr ⟨_, HA.out, rfl, HR.out⟩
 ·have HA := lh (ask_then_no h m h1);rw [hwl] at HA;have hnn : ((m.length : Int) == 1) = false := bF (by omega);have v2 : decide ((m.length : Int) = 1) = false := decide_eq_false (by omega);have v3 : ¬ ((m.length : Int) = 1) := by omega
  have v4 : (m.length == 1) = false := bF (by omega);have v5 : decide (m.length = 1) = false := decide_eq_false (by omega);clear h1 hr hwl;go_wp2
  go_ret
  exact .inl ⟨HA.out, rfl, H1.out⟩
theorem ask_w0 (H : Has (TR S gd gw) W w (x, (t, h))) (hL : LaidD W) (hok : DeskOk h) (wl : List UInt8) (An : Option Addr) (nn cn : Nat) (m : List Int) (hn : nn = m.length) (h0 : ¬ 0 < oneKind wl) (n1 : wl ≠ wCrash) (n2 : wl ≠ wTear) (n3 : wl ≠ wCalm) (n4 : wl ≠ wPackets) (n5 : wl ≠ wDone) (n6 : wl ≠ wLog) (n7 : wl ≠ wThen) :
 Calls Tryz.prog 32 #[.pointer (some ⟨gd, 0, none⟩), .string (mkStr wl), .slice An nn cn] w (AskPost S x W gd gw t h (dAsk h wl m)) := by
 have hone : ¬ 0 < idxOf askL (mkStr wl) := fun e => h0 ((ask_idx wl).1.1 e);have HA := lh (ask_other h m h0 n1 n2 n3 n4 n5 n6 n7);have qCrash : ((mkStr wl).toList == [99, 114, 97, 115, 104]) = false := eq_no n1;have qTear : ((mkStr wl).toList == [116, 101, 97, 114]) = false := eq_no n2;have qCalm : ((mkStr wl).toList == [99, 97, 108, 109]) = false := eq_no n3;have qPackets : ((mkStr wl).toList == [112, 97, 99, 107, 101, 116, 115]) = false := eq_no n4;have qDone : ((mkStr wl).toList == [100, 111, 110, 101]) = false := eq_no n5;have qLog : ((mkStr wl).toList == [108, 111, 103]) = false := eq_no n6;have qThen : ((mkStr wl).toList == [116, 104, 101, 110]) = false := eq_no n7;clear n1 n2 n3 n4 n5 n6 n7 h0;subst hn;have HL := lh hL;have HOK := lh hok;have HX := lh (show Ext w (w.alloc (.cells (askL.map Value.string).toArray 9)) from (Touch.refl _ w).alloc _);have H1 := lh (H.step HX.out);have ho1 : Owns (w.alloc (.cells (askL.map Value.string).toArray 9)) 9 (.slice (some ⟨w.heap.size, 0, none⟩) askL.length askL.length) askL := own_texts askL (heap_alloc_new _ _) rfl (by decide);have HO := lh ho1;clear H hL hok ho1;go_enter Tryz.func32, Tryz.ntmps32
 go_wp2_with fail
 refine (index_texts (w.alloc (.cells (askL.map Value.string).toArray 9)) _ _ _ askL (mkStr wl) HO.out.reads (by decide)).mono ?_;rintro e w' ⟨rfl, rfl⟩;generalize w.alloc (.cells (askL.map Value.string).toArray 9) = w1 at *;clear HO;have hds := tell_ds H1.out;generalize idxOf askL (mkStr wl) = one at *;go_wp2
 go_ret
 exact .inl ⟨HA.out, rfl, H1.out⟩
theorem desk_ask (H : Has (TR S gd gw) W w (x, (t, h))) (hL : LaidD W) (hok : DeskOk h) (wd : ByteArray) (An : Option Addr) (nn cn : Nat) (m : List Int) (hn : nn = m.length) (hr : ∀ w' z, Has (TR S gd gw) W w' (x, z) -> Reads w' w'.heap.size An m) (hm : ∀ a ∈ m, I64 a) (ht : t.length <= 100000000) :
 Calls Tryz.prog 32 #[.pointer (some ⟨gd, 0, none⟩), .string (wd), .slice An nn cn] w (AskPost S x W gd gw t h (dAsk h wd.toList m)) := by
 obtain ⟨wl, rfl⟩ : ∃ wl, wd = mkStr wl := ⟨wd.toList, (toList_inj (mkStr_toList _)).symm⟩
 rw [mkStr_toList];by_cases h0 : 0 < oneKind wl
 ·exact ask_w1 H hL hok wl An nn cn m hn hr hm ht h0
 by_cases nCrash : wl = wCrash
 ·subst nCrash;exact ask_wCrash H hL hok An nn cn m hn hr hm ht
 by_cases nTear : wl = wTear
 ·subst nTear;exact ask_wTear H hL hok An nn cn m hn hr hm ht
 by_cases nCalm : wl = wCalm
 ·subst nCalm;exact ask_wCalm H hL hok An nn cn m hn hr hm ht
 by_cases nPackets : wl = wPackets
 ·subst nPackets;exact ask_wPackets H hL hok An nn cn m hn hr hm ht
 by_cases nDone : wl = wDone
 ·subst nDone;exact ask_wDone H hL hok An nn cn m hn hr hm ht
 by_cases nLog : wl = wLog
 ·subst nLog;exact ask_wLog H hL hok An nn cn m hn hr hm ht
 by_cases nThen : wl = wThen
 ·subst nThen;exact ask_wThen H hL hok An nn cn m hn hr hm ht
 exact ask_w0 H hL hok wl An nn cn m hn h0 nCrash nTear nCalm nPackets nDone nLog nThen
end
def allB (s : ByteArray) : List ByteArray := (splitAll s.toList).map mkStr
theorem map_to (l : List (List UInt8)) : (l.map mkStr).map (·.toList) = l := by
 rw [List.map_map];conv => rhs; rw [<- List.map_id l]
 exact List.map_congr_left fun x _ => mkStr_toList x
theorem splitB_all (s : ByteArray) : Lib.splitB ⟨#[32]⟩ 0 (Lib.countB s ⟨#[32]⟩) s = allB s := by
 have h := split_all s;unfold allB;rw [<- h, List.map_map];conv => lhs; rw [<- List.map_id (Lib.splitB ⟨#[32]⟩ 0 (Lib.countB s ⟨#[32]⟩) s)]
 exact List.map_congr_left fun x _ => by
  show x = mkStr x.data.toList;exact toList_inj (by rw [mkStr_toList, ByteArray.toList_eq])
theorem countB_len (s : ByteArray) : Lib.countB s ⟨#[32]⟩ + 1 = (allB s).length := by
 unfold allB;rw [List.length_map, splitAll_len, ByteArray.toList_eq];show Lib.count s.data.toList [32] + 1 = _;rw [Lib.count_one]
def NewTexts (w : World) (l : List ByteArray) (e : Ending) (w' : World) : Prop := e = .returned (.slice (some ⟨w.heap.size, 0, none⟩) l.length l.length) /\ w' = w.alloc (.cells (l.map Value.string).toArray 9)
theorem split_words (w : World) (s : ByteArray) (hs : s.size <= 100000) (hL : Laid w) : Calls Tryz.prog 30 #[.string s, .string ⟨#[32]⟩] w (NewTexts w (allB s)) := by
 obtain ⟨m, hm⟩ := hL.max;refine (strings_Split s ⟨#[32]⟩ m w (by omega) hm (by decide)).mono ?_;rw [splitB_all, countB_len];rintro e w' ⟨rfl, rfl⟩;exact ⟨rfl, rfl⟩
theorem is_empty (W : World) (x : ByteArray) : Calls Tryz.prog 31 #[.string x] W fun e w' => e = .returned (.bool (x.toList == [])) /\ w' = W := by
 go_enter Tryz.func31, Tryz.ntmps31
 go_wp2
 go_ret
 exact ⟨by simp, rfl⟩
abbrev full (l : List ByteArray) : List ByteArray := l.filter fun x => !(x.toList == [])
theorem del_empty (w : World) (g : Nat) (l : List ByteArray) (hb : w.heap[g]? = some (.cells (l.map Value.string).toArray 9 (0, 0))) (hl : l.length <= 1000000) :
 Calls Tryz.prog 29 #[.slice (some ⟨g, 0, none⟩) l.length l.length, .func (.func 31) #[] #[]] w fun e w' =>
  e = .returned (.slice (some ⟨g, 0, none⟩) (full l).length l.length) /\ Touch (fun k => k = g) w w' /\
  ∀ (k : Nat) (x : ByteArray), (full l)[k]? = some x -> w'.cell? ⟨g, k, none⟩ = some (.string x) := by
 have hgive : ∀ W x, FnGives Tryz.prog 31 #[] #[Value.string x] (.bool (x.toList == [])) W := fun W x =>
  (is_empty W x).mono fun e w' ⟨he, hw⟩ => ⟨he, 0, by rw [hw]; rfl⟩
 have hH : Go.Sort.Holds Value.string w g 0 l.toArray := fun j hj => by
  have hj' : j < l.length := by simpa using hj
  have h1 := cell_of hb (0 + j);refine ⟨?_, frozen_of hb (0 + j)⟩;rw [h1];simp [hj']
 refine (slices_DeleteFunc (α := ByteArray) Value.string (fun _ => rfl) (fun x => x.toList == []) 31 #[] (enters_of Tryz.func31 (by kernel_rfl) rfl) ⟨#[]⟩ Tryz.zeroValue9 g 0 l.length l.toArray w (fun W x _ => hgive W x) (fun n os dk x _ => hgive _ x) hH (by simpa using by omega) (by simp)).mono ?_;rintro e w' ⟨rfl, q, rfl⟩;have hfl : (full l).length <= l.length := List.length_filter_le _ _;refine ⟨rfl, ?_, fun k x hk => ?_⟩
 ·refine ⟨rfl, rfl, rfl, by simp [Go.Sort.ahead], fun k _ hk => ?_⟩;have : g ≠ k := fun e => hk e.symm;simp [Go.Sort.putRow, Go.Sort.mapBlock, Go.Sort.ahead, Array.getElem?_modify, this]
 ·have hkl := (lG hk).1;have h1 := Go.Sort.cell?_putRow Value.string (Go.Sort.ahead w q) g 0 l.toArray ((full l) ++ List.replicate (l.length - (full l).length) (⟨#[]⟩ : ByteArray)).toArray hH (by simp; omega) k (by simp; omega);rw [Nat.zero_add] at h1
  have h2 : (((full l) ++ List.replicate (l.length - (full l).length) (⟨#[]⟩ : ByteArray)).toArray)[k]! = x := by
   rw [getElem!_pos _ k (by simp; omega), List.getElem_toArray, List.getElem_append_left hkl];exact (lG hk).2
  rw [h2] at h1;exact h1
theorem reads_cells {w : World} {g : Nat} {l : List ByteArray} (h : ∀ (k : Nat) (x : ByteArray), l[k]? = some x -> w.cell? ⟨g, k, none⟩ = some (.string x)) (hg : g < w.heap.size) : Reads w w.heap.size (some ⟨g, 0, none⟩) l := fun k x hk => by
 refine ⟨⟨g, 0, none⟩, rfl, hg, fun j v hv => ?_⟩;match j, hv with
 | 0, hv =>
   obtain rfl : Value.string x = v := Option.some.inj hv
   have h1 : ((⟨g, 0, none⟩ : Addr).add (k * Lies.size ByteArray)).add 0 = ⟨g, k, none⟩ := by
    show ((⟨g, 0, none⟩ : Addr).add (k * 1)).add 0 = _;unfold Addr.add; split <;> split <;> simp_all
   rw [h1];exact h k x hk
theorem words_filter (s : ByteArray) : (allB s).filter (fun x => !(x.toList == [])) = (wordsOf s.toList).map mkStr := by
 unfold allB wordsOf;rw [List.filter_map];congr 1
 exact List.filter_congr fun x _ => by
  show (!((mkStr x).toList == [])) = !x.isEmpty;rw [mkStr_toList];cases x <;> rfl
attribute [local go_sem ↓] sliced_cut
abbrev OI : Rep (Value × List Int) := repOwn 3
theorem what_say : say ([sWhat].map (·.toList)) = say [wWhat] := by simp [wWhat]
theorem ask_pieces {s : ByteArray} (h : isAsk s.toList = true) : piecesB s = [mkStr wCall, mkStr (wordOf (wordOf s.toList).2.1).1, mkStr (wordOf (wordOf s.toList).2.1).2.1] := by
 unfold isAsk at h;simp only [Bool.and_eq_true, decide_eq_true_eq] at h;unfold piecesB pieces;rw [if_pos h.1.1, if_pos h.1.2, h.2];rfl
theorem pieces_no {s : ByteArray} (h : isAsk s.toList = false) : (piecesB s).length ≠ 3 \/ ∃ p q r, piecesB s = [mkStr p, mkStr q, mkStr r] /\ p ≠ wCall := by
 unfold piecesB pieces;split
 ·rename_i h1;split
  ·rename_i h2;refine .inr ⟨_, _, _, rfl, fun e => ?_⟩;unfold isAsk at h;simp [h1, h2, e] at h
  ·exact .inl (by simp)
 ·exact .inl (by simp)
theorem pieces_ne (s : ByteArray) : ∃ p r, piecesB s = p :: r /\ (piecesB s).length <= 3 := by
 unfold piecesB pieces;split
 ·split
  ·exact ⟨_, _, rfl, by simp⟩
  ·exact ⟨_, _, rfl, by simp⟩
 ·exact ⟨_, _, rfl, by simp⟩
theorem wordOf_le (s : List UInt8) : (wordOf s).1.length <= s.length /\ (wordOf s).2.1.length <= s.length := by
 unfold wordOf;refine ⟨(List.takeWhile_sublist _).length_le, ?_⟩;have h1 : (s.dropWhile (fun b => b != 32)).length <= s.length := (List.dropWhile_sublist _).length_le;show (s.dropWhile (fun b => b != 32)).tail.length <= _;rw [List.length_tail];omega
section
variable {X : Type} {S : Rep X} {x : X} {W w : World} {gd gw : Nat} {t : List UInt8} {h : House}
theorem line_ask (H : Has (TR S gd gw) W w (x, (t, h))) (hL : LaidD W) (hok : DeskOk h) (s : ByteArray) (hs : s.size <= 10000) (ht : t.length <= 100000000) (ha : isAsk s.toList = true) :
 Calls Tryz.prog 15 #[.pointer (some ⟨gd, 0, none⟩), .string s] w (Tells S x W gd gw (t ++ (dLine h s.toList).1, (dLine h s.toList).2) (.tuple #[])) := by
 have HL := lh hL;have HOK := lh hok;have H0 := lh H;have hpc := ask_pieces ha;have HD := lh (show dLine h s.toList = dCall h (wordOf (wordOf s.toList).2.1).1 (wordOf (wordOf s.toList).2.1).2.1 by unfold dLine; rw [if_pos ha])
 have hsz : (wordOf (wordOf s.toList).2.1).2.1.length <= 10000 /\ (wordOf (wordOf s.toList).2.1).1.length <= 10000 := by
  have h1 := wordOf_le s.toList;have h2 := wordOf_le (wordOf s.toList).2.1;rw [length_toList'] at h1;omega
 clear H hL hok ha;go_enter Tryz.func15, Tryz.ntmps15
 go_wp2_with fail
 refine (split_line w s (by omega) (HL.out.ext H0.out.ext).laid).mono ?_;rw [hpc];generalize (wordOf (wordOf s.toList).2.1).1 = who at *;generalize (wordOf (wordOf s.toList).2.1).2.1 = cl at *;clear hpc;rintro e w1 ⟨A1, c1, rfl, ho1, hx1, _⟩;have H1 := lh (H0.out.step hx1);obtain ⟨g, rfl, hc0⟩ := own_text ho1 (k := 0) (x := mkStr wCall) rfl;have h0 := hc0 w1 (Touch.refl _ _);obtain ⟨_, e, hc2⟩ := own_text ho1 (k := 2) (x := mkStr cl) rfl;injection e with e;injection e with e;subst e;have HC2 := lh hc2;have HO1 := lh ho1;have hcap : 3 <= c1 := by obtain ⟨_, _, e, hc, _⟩ := ho1.form; cases e; exact hc
 have q0 : ((mkStr wCall).toList == [99, 97, 108, 108]) = true := eq_yes wCall;clear hc0 hc2 ho1 hx1 H0;go_wp2_with fail
 have hrd : Reads w1 w1.heap.size (cutA (some ⟨g, 0, none⟩) c1 1 1) [mkStr who] := (HO1.out.reads.cutA (m := c1) (by simpa using hcap) 1).take 1;refine (desk_numbers w1 _ 1 _ [mkStr who] hrd rfl (by simp) (fun y hy => by simp at hy; subst hy; rw [mkStr_size]; omega) (HL.out.ext H1.out.ext)).mono ?_;have hmw : [mkStr who].map (·.toList) = [who] := by simp [mkStr_toList]
 rw [hmw];unfold NumsPost;rw [numsOf_one];clear hrd hmw h0;cases hnum : numOf who with
 | none =>
   have HDC := lh (show dCall h who cl = (say [wWhat], h) by unfold dCall; rw [hnum]);clear hnum;rintro e w2 (⟨_, rfl, hx2⟩ | ⟨m, A2, c2, hyes, _⟩);rotate_left
   ·exact absurd hyes (by simp)
   have H2 := lh (H1.out.step hx2);have hc2 := HC2.out w2 hx2;clear hx2 H1;go_wp2_with fail
   refine (line_parse w2 (mkStr cl) (by rw [mkStr_size]; omega) (HL.out.ext H2.out.ext).laid).mono ?_;unfold ParsePost;rw [mkStr_toList];rintro e w3 ⟨rfl, hx3⟩;have H3 := lh ((H2.out.step hx3).step ((Touch.refl _ w3).alloc (.cells (callOf cl).1.cells 66)));clear hx3 H2 hc2;go_upto_region 5 with fail
   generalize w3.alloc (.cells (callOf cl).1.cells 66) = w4 at H3 ⊢;go_wp2_with fail
   refine (say_lit' H3.out [sWhat] (by decide) (by omega) rfl rfl what_say (by decide)).mono ?_;rintro e w5 ⟨rfl, H4⟩;have HR := lh H4;clear H4;go_wp2
   go_end0
   exact ⟨rfl, by rw [HD.out, HDC.out]; exact HR.out⟩
 | some n =>
   have hni := nums_in (l := [who]) (m := [n]) (by rw [numsOf_one, hnum]; rfl) n (by simp);have HDC := lh (show dCall h who cl = if (callOf cl).2 ≠ 0 then (dCode (callOf cl).2, h) else dStep h ⟨1, n, 0, (callOf cl).1⟩ by unfold dCall; rw [hnum]);clear hnum;rintro e w2 (⟨hno, _⟩ | ⟨m, A2, c2, hyes, rfl, ho2, hx2, hf2⟩)
   ·exact absurd hno (by simp)
   obtain rfl : [n] = m := by simpa using hyes
   have H2 := lh (H1.out.newList hx2 ho2 hf2).exch';have hc2 := HC2.out w2 hx2;clear hx2 ho2 hf2 H1 hyes;go_wp2_with fail
   refine (line_parse w2 (mkStr cl) (by rw [mkStr_size]; omega) (HL.out.ext H2.out.ext).laid).mono ?_;unfold ParsePost;rw [mkStr_toList];rintro e w3 ⟨rfl, hx3⟩;have H3 := lh ((H2.out.step hx3).box (callOf cl).1.cells 66).exch';clear hx3 H2 hc2;have hci := callOf_in cl;have HCS := lh (show (callOf cl).2 = 0 -> StrCall (callOf cl).1 from fun e => code_str (callOf_zero e).1);generalize (callOf cl).1 = c at *;generalize (callOf cl).2 = e0 at *;go_upto_region 5 with fail
   generalize w3.alloc (.cells c.cells 66) = w4 at H3 ⊢;generalize w3.heap.size = b at H3 ⊢;by_cases he : e0 = 0
   ·subst he;have HDD := lh (show dCall h who cl = dStep h ⟨1, n, 0, c⟩ by rw [HDC.out, if_neg (by decide)]);have HSC := lh (HCS.out rfl);obtain ⟨adn, rfl, hcn⟩ := cell_num0 H3.out.left.left.right.owns.reads (Nat.le_refl _) (a := n) rfl;have hb4 := H3.out.left.blk;have HX4 := lh (show Ext w4 w4.drew from Touch.drew (Touch.refl _ w4));go_wp2_with fail
    refine wp_region_held_drew (S := fun w' => w'.cell? adn = some (.int .i64 n) /\ w'.heap[b]? = some (.cells c.cells 66 (0, 0))) (by kernel_rfl) ⟨hcn _ HX4.out, HX4.out.blk hb4 id⟩ (fun hHeld => ?_);clear hcn hb4;refine tK 0 ?_;try simp only [pS]
    refine tK 1 ?_;try simp only [pS]
    refine tK 4 ?_ (hY := fun w' hw' => by
     have hb := hw'.2;go_simp;try with_reducible rfl)
    try simp only [pS]
    refine tK 2 ?_;try simp only [pS]
    refine tK 3 ?_ (hY := fun w' hw' => by
     have hb := hw'.1;go_simp;try with_reducible rfl)
    try simp only [pS]
    refine tK 5 ?_;try simp only [pS]
    refine tC 6 fun K hK => ?_;go_simp;go_at_call 28
    refine (desk_step (H3.out.step HX4.out) HL.out HOK.out ⟨1, n, 0, c⟩ ⟨HSC.out, ⟨(by decide : (-9223372036854775808 : Int) <= 0), (by decide : (0 : Int) <= 9223372036854775807)⟩⟩ ht).mono ?_;rintro e w5 ⟨rfl, H5⟩;obtain ⟨_, e, hcn⟩ := cell_num0 H5.left.left.right.owns.reads (Nat.le_refl _) (a := n) rfl;injection e with e;subst e;refine hK.out _ _ ⟨hcn w5 (Touch.refl _ _), H5.left.blk⟩ (fun hHeld => ?_);have HR := lh H5.drop.drop;clear H5 hcn;clear hK K;try simp only [pS]
    refine tD ?_;clear hHeld;go_wp2
    go_end0
    exact ⟨rfl, by rw [HD.out, HDD.out]; exact HR.out⟩
   ·have HDD := lh (show dCall h who cl = (dCode e0, h) by rw [HDC.out, if_pos he]);have hn64 : Num64 e0 := ⟨by omega, by omega⟩
    go_wp2_with fail
    refine (desk_num w4 e0 hn64 (HL.out.ext H3.out.ext).laid).mono ?_;rintro e w5 ⟨rfl, hx5⟩;have H5 := lh (H3.out.step hx5);clear hx5 H3;go_wp2_with fail
    refine (say_lit' H5.out [sNo, mkStr (Lib.itoa e0)] (by simp) (by omega) rfl rfl (say_code (c := e0) (by rw [if_pos he])) (Nat.le_trans (dCode_len hci) (by decide))).mono ?_;rintro e w6 ⟨rfl, H6⟩;have HR := lh H6.drop.drop;clear H6;go_wp2
    go_end0
    exact ⟨rfl, by rw [HD.out, HDD.out]; exact HR.out⟩
theorem line_talk (H : Has (TR S gd gw) W w (x, (t, h))) (hL : LaidD W) (hok : DeskOk h) (s : ByteArray) (hs : s.size <= 10000) (ht : t.length <= 100000000) (ha : isAsk s.toList = false) :
 Calls Tryz.prog 15 #[.pointer (some ⟨gd, 0, none⟩), .string s] w (Tells S x W gd gw (t ++ (dLine h s.toList).1, (dLine h s.toList).2) (.tuple #[])) := by
 have HL := lh hL;have HOK := lh hok;have H0 := lh H;have HPN := lh (pieces_no ha);have HD := lh (show dLine h s.toList = dWords h (wordsOf s.toList) by unfold dLine; rw [if_neg (by rw [ha]; decide)]);obtain ⟨p0, pr, hpc, hp3⟩ := pieces_ne s;clear H hL hok ha;go_enter Tryz.func15, Tryz.ntmps15
 go_wp2_with fail
 refine (split_line w s (by omega) (HL.out.ext H0.out.ext).laid).mono ?_;generalize piecesB s = P at *;rintro e w1 ⟨A1, c1, rfl, ho1, hx1, _⟩;have H1 := lh (H0.out.step hx1);subst hpc;obtain ⟨g, rfl, hc0⟩ := own_text ho1 (k := 0) (x := p0) rfl;have h0 := hc0 w1 (Touch.refl _ _);clear hc0 ho1 hx1 H0;have HPN' := HPN.out;go_upto_region 1 with fail
 go_cut [22] (fun v wz => v = .bool false /\ w1 = wz)
 case first =>
  by_cases hlen : (p0 :: pr).length = 3
  ·rcases HPN' with h3 | ⟨p, q, r, e, hne⟩
   ·exact (h3 hlen).elim
   ·injection e with e1 e2;subst e1;have q0 : ((mkStr p).toList == [99, 97, 108, 108]) = false := eq_no (b := wCall) hne;go_wp2_with fail
    go_meet
    case rel => exact ⟨rfl, rfl⟩
  ·have hl3 : (((p0 :: pr).length : Int) == 3) = false := bF (by omega);cases hq : (p0.toList == [99, 97, 108, 108]) with
   | true =>
     go_wp2_with fail
     go_meet
     case rel => exact ⟨by simp at *; omega, rfl⟩
   | false =>
     go_wp2_with fail
     go_meet
     case rel => exact ⟨rfl, rfl⟩
 obtain ⟨rfl, rfl⟩ := hcut;clear h0 HPN' HPN;go_wp2_with fail
 refine (split_words w1 s (by omega) (HL.out.ext H1.out.ext).laid).mono ?_;rintro e w2 ⟨rfl, hw2⟩;have hb2 : w2.heap[w1.heap.size]? = some (.cells ((allB s).map Value.string).toArray 9 (0, 0)) := by rw [hw2]; exact heap_alloc_new _ _
 have hx2 : Ext w1 w2 := by rw [hw2]; exact (Touch.refl _ w1).alloc _
 have hal : (allB s).length <= 100000 := by
  unfold allB;rw [List.length_map, splitAll_len];have h1 := count_le_len s.toList;rw [length_toList'] at h1;omega
 clear hw2;go_wp2_with fail
 refine (del_empty w2 w1.heap.size (allB s) hb2 (by omega)).mono ?_;rintro e w3 ⟨rfl, ht3, hcl⟩;have hfl : (full (allB s)).length <= (allB s).length := List.length_filter_le _ _;have hx3 : Ext w1 w3 := hx2.then ht3 fun k hk => .inr (Nat.le_of_eq hk.symm)
 have hgl : w1.heap.size < w3.heap.size := Nat.lt_of_lt_of_le (aG hb2).1 ht3.size;have hrd := reads_cells hcl hgl;have H3 := lh (H1.out.step hx3);have hwf : full (allB s) = (wordsOf s.toList).map mkStr := words_filter s;rw [hwf] at hcl hfl hrd ⊢;clear hwf;have hwe := fun y (hy : y ∈ wordsOf s.toList) => (wordsOf_each hy).2;rw [length_toList'] at hwe;generalize wordsOf s.toList = Ws at *;generalize w1.heap.size = gl at *;clear hb2 hx2 ht3 hx3 hgl H1;cases Ws with
 | nil =>
   have HDW := lh (show dWords h [] = ([], h) from rfl);go_wp2
   go_end0
   exact ⟨rfl, by rw [HD.out, HDW.out, List.append_nil]; exact H3.out⟩
 | cons w0 wr =>
   have hc0 := hcl 0 (mkStr w0) rfl;have HRD := lh hrd;have hnl : (List.map mkStr (w0 :: wr)).length = wr.length + 1 := by simp
   rw [hnl] at hfl ⊢;clear hcl hrd;generalize hcp : (allB s).length = cp at *;go_wp2_with fail
   have hrd : Reads w3 w3.heap.size (cutA (some ⟨gl, 0, none⟩) cp 1 1) (wr.map mkStr) := HRD.out.cutA (m := cp) (by rw [hnl]; exact hfl) 1
   have hwl : wr.length <= 100000 := by
    have h1 := hal;omega
   refine (desk_numbers w3 _ wr.length _ (wr.map mkStr) hrd (by simp) (by simpa using hwl) (fun y hy => by
    obtain ⟨u, hu, rfl⟩ := List.mem_map.1 hy;have := hwe u (List.mem_cons_of_mem _ hu);rw [mkStr_size]; omega) (HL.out.ext H3.out.ext)).mono ?_
   rw [map_to];unfold NumsPost;clear hrd;cases hnum : numsOf wr with
   | none =>
     have HDW := lh (show dWords h (w0 :: wr) = (say [wWhat], h) by show (match numsOf wr with | none => (say [wWhat], h) | some n => (dAsk h w0 n).getD (say [wWhat], h)) = _; rw [hnum]);clear hnum;rintro e w4 (⟨_, rfl, hx4⟩ | ⟨m, A2, c2, hyes, _⟩);rotate_left
     ·exact absurd hyes (by simp)
     have H4 := lh (H3.out.step hx4);clear hx4 H3;go_wp2_with fail
     refine (say_lit' H4.out [sWhat] (by decide) (by omega) rfl rfl what_say (by decide)).mono ?_;rintro e w5 ⟨rfl, H5⟩;have HR := lh H5;clear H5;go_wp2
     go_end0
     exact ⟨rfl, by rw [HD.out, HDW.out]; exact HR.out⟩
   | some m =>
     have HM := lh (nums_in hnum);have HDW := lh (show dWords h (w0 :: wr) = (dAsk h w0 m).getD (say [wWhat], h) by show (match numsOf wr with | none => (say [wWhat], h) | some n => (dAsk h w0 n).getD (say [wWhat], h)) = _; rw [hnum]);have hrr : ∀ (A2 : Option Addr) (c2 : Nat) w' z, Has (TR (S.and OI) gd gw) W w' ((x, (.slice A2 m.length c2, m)), z) -> Reads w' w'.heap.size A2 m := fun A2 c2 w' z H => Owns.reads (show Owns w' 3 (.slice A2 m.length c2) m from H.left.right.owns);clear hnum;rintro e w4 (⟨hno, _⟩ | ⟨m', A2, c2, hyes, rfl, ho4, hx4, hf4⟩)
     ·exact absurd hno (by simp)
     obtain rfl : m = m' := by simpa using hyes
     have H4 := lh (H3.out.newList hx4 ho4 hf4).exch'
     have hg0 := hx4.block gl (by
      rcases Nat.lt_or_ge gl w3.heap.size with h1 | h1
      ·exact h1
      ·unfold World.cell? at hc0;rw [Array.getElem?_eq_none h1] at hc0;simp at hc0) id
     have hc4 : w4.cell? ⟨gl, 0, none⟩ = some (.string (mkStr w0)) := by
      unfold World.cell? at hc0 ⊢;rw [show w4.heap[(⟨gl, 0, none⟩ : Addr).block]? = w3.heap[(⟨gl, 0, none⟩ : Addr).block]? from hg0];exact hc0
     clear hx4 ho4 hf4 H3 hyes hg0 hc0;go_wp2_with fail
     refine (desk_ask H4.out HL.out HOK.out (mkStr w0) A2 m.length c2 m rfl (hrr A2 c2) HM.out ht).mono ?_;rw [mkStr_toList];rintro e w5 (⟨hq, rfl, H5⟩ | ⟨r, hq, rfl, H5⟩)
     ·have HQ := lh (show dWords h (w0 :: wr) = (say [wWhat], h) by rw [HDW.out, hq]; rfl);have HA := lh H5.drop;clear hq H5 H4;go_wp2_with fail
      refine (say_lit' HA.out [sWhat] (by decide) (by omega) rfl rfl what_say (by decide)).mono ?_;rintro e w6 ⟨rfl, H6⟩;have HR := lh H6;clear H6;go_wp2
      go_end0
      exact ⟨rfl, by rw [HD.out, HQ.out]; exact HR.out⟩
     ·have HQ := lh (show dWords h (w0 :: wr) = r by rw [HDW.out, hq]; rfl);have HA := lh H5.drop;clear hq H5 H4;go_wp2
      go_end0
      exact ⟨rfl, by rw [HD.out, HQ.out]; exact HA.out⟩
theorem desk_line (H : Has (TR S gd gw) W w (x, (t, h))) (hL : LaidD W) (hok : DeskOk h) (s : ByteArray) (hs : s.size <= 10000) (ht : t.length <= 100000000) :
 Calls Tryz.prog 15 #[.pointer (some ⟨gd, 0, none⟩), .string s] w (Tells S x W gd gw (t ++ (dLine h s.toList).1, (dLine h s.toList).2) (.tuple #[])) := by
 cases ha : isAsk s.toList with
 | true => exact line_ask H hL hok s hs ht ha
 | false => exact line_talk H hL hok s hs ht ha
end
structure FaultD where
 code : Int
 at_ : Int
def FaultD.cells (x : FaultD) : Array Value := #[.int .i64 x.code, .int .i64 x.at_]
instance : Lies FaultD := ⟨2, FaultD.cells, fun _ => rfl, fun x u h => by simp [FaultD.cells] at h; rcases h with rfl | rfl <;> rfl, by decide⟩
@[go_sem, simp] theorem FaultD.size_cells (x : FaultD) : x.cells.size = 2 := by cases x; rfl
@[go_sem, simp] theorem FaultD.get0 (x : FaultD) : x.cells[0]? = some (.int .i64 x.code) := by cases x; rfl
@[go_sem, simp] theorem FaultD.ext_all (x : FaultD) : x.cells.extract 0 2 = x.cells := by cases x; simp [FaultD.cells]
theorem isFault : IsType Tryz.prog 31 FaultD := ⟨⟨_, Tryz.underlying31⟩, by kernel_rfl⟩
@[go_sem] theorem LVb_Fault (b o : Nat) (w : World) : LV Tryz.prog 31 ⟨b, o, none⟩ w = LVp Tryz.prog 31 b o w (objPart o 2 (w.heap[b]?)) := LVp_eq Tryz.underlying31 isFault.size b o w
@[go_sem] theorem run_storeS_Fault (x : FaultD) (b o : Nat) (w : World) : (storeS 31 (.pointer (some ⟨b, o, none⟩)) (.agg x.cells)).run Tryz.prog w = SVo Tryz.prog 31 2 b o x.cells w (w.heap[b]?) := SVo_eq isFault.size (Lies.size_eq x) (Lies.one x) b o w
theorem results_tmp_cell {P : Program} {fn : Func} {p t : Tmp} {ty : TypeId} (h : fn.results = #[.tmp t, .cell p ty]) (tmps : Array Value) (w : World) (a : Addr) (v : Value) (hp : tmps.getD p undef = .pointer (some a)) (hl : (loadVar ty a).run P w = .ok v w) :
 (results fn tmps).run P w = .ok (.tuple #[tmps.getD t undef, v]) w := by
 have hp' : tmps[p]?.getD undef = .pointer (some a) := by simpa using hp
 simp [results, h, hp', asAddr, hl]
def hasNl (s : List UInt8) : Bool := Lib.contains s [10]
def nlAt : List (List UInt8) -> Nat -> Option Nat
 | [], _ => none
 | s :: l, k => if hasNl s = true then some k else nlAt l (k + 1)
def lFault (l : List (List UInt8)) : FaultD := if 150 < l.length then ⟨13, -1⟩ else match nlAt l 0 with | some i => ⟨14, i⟩ | none => ⟨0, 0⟩
def dDo (h : House) (l : List (List UInt8)) : (List UInt8 × FaultD) × House := if (lFault l).code ≠ 0 then (([], lFault l), h) else (((dLines h l).1, ⟨0, 0⟩), (dLines h l).2)
theorem nlAt_take {l : List (List UInt8)} {k : Nat} : ∀ (j : Nat), (∀ i s, i < k -> l[i]? = some s -> hasNl s = false) -> nlAt l j = nlAt (l.drop k) (j + k) := by
 induction k generalizing l with
 | zero => intro j _; rfl
 | succ k ih =>
   intro j h;cases l with
   | nil => simp [nlAt]
   | cons s l =>
     rw [nlAt, if_neg (by rw [h 0 s (by omega) rfl]; decide), List.drop_succ_cons, ih (j + 1) fun i s' hi hs => h (i + 1) s' (by omega) hs];congr 1
     omega
theorem lFault_at {l : List (List UInt8)} {k : Nat} {s : List UInt8} (hl : ¬ 150 < l.length) (hno : ∀ j u, j < k -> l[j]? = some u -> hasNl u = false) (hs : l[k]? = some s) (hn : hasNl s = true) : lFault l = ⟨14, k⟩ := by
 unfold lFault;rw [if_neg hl, nlAt_take 0 hno];have e : l.drop k = s :: l.drop (k + 1) := (List.drop_eq_getElem_cons (lG hs).1).trans (by rw [(lG hs).2]);rw [e, nlAt, if_pos hn];simp
theorem lFault_none {l : List (List UInt8)} (hl : ¬ 150 < l.length) (hno : ∀ j u, j < l.length -> l[j]? = some u -> hasNl u = false) : lFault l = ⟨0, 0⟩ := by
 unfold lFault;rw [if_neg hl, nlAt_take 0 hno, List.drop_length];rfl
section
variable {X Y Y' : Type} {R : Rep X} {S : Rep Y} {S' : Rep Y'} {W w w' : World} {H F : Nat -> Prop} {x : X} {y : Y} {y' : Y'} {gd gw : Nat} {h : House} {t : List UInt8}
theorem Rep.snd2 (h : (R.and S).on w H (x, y)) : ∃ G, S.on w G y /\ ∀ {Y' : Type} {S' : Rep Y'} (y' : Y') w', Moved S' w G y' w' -> Moved (R.and S') w H (x, y') w' := by
 obtain ⟨F, G, hF, hG, hd, hH⟩ := h;refine ⟨G, hG, fun y' w' ⟨G', h1, h2, h3⟩ => ⟨fun k => F k \/ G' k, ⟨F, G', R.touch hF h2 fun k hk hg => hd k hk hg, h1, fun k hk hg => ?_, fun k => Iff.rfl⟩, h2.mono fun k hk => .inl ((hH k).2 (.inr hk)), fun k hk => ?_⟩⟩
 ·rcases h3 k hg with h | h
  ·exact hd k hk h
  ·have := R.lt hF k hk; omega
 ·rcases hk with hk | hk
  ·exact .inl ((hH k).2 (.inl hk))
  ·rcases h3 k hk with h | h
   ·exact .inl ((hH k).2 (.inr h))
   ·exact .inr h
theorem Has.snd2 (h : Has (R.and S) W w (x, y)) : ∃ F, S.on w F y /\ ∀ {Y' : Type} {S' : Rep Y'} (y' : Y') w', Moved S' w F y' w' -> Has (R.and S') W w' (x, y') := by
 obtain ⟨H, h1, h2⟩ := h.ex;obtain ⟨F, hF, hm⟩ := Rep.snd2 h1;refine ⟨F, hF, fun {Y'} {S'} y' w' m => ?_⟩;obtain ⟨F', g1, g2, g3⟩ := hm y' w' m;refine ⟨⟨F', g1, fun k hk => ?_⟩, h.ext.then g2 fun k hk => .inr (h2 k hk)⟩;rcases g3 k hk with h' | h'
 ·exact h2 k h'
 ·exact Nat.le_trans h.ext.size h'
theorem desk_on (hh : (repDesk gd gw).on w F h) : ∃ p v, w.heap[gd]? = some (.cells (deskCells p v gw) 44 (0, 0)) /\
 ∀ w', w'.heap[gd]? = some (.cells (deskCells (.pointer none) vNull gw) 44 (0, 0)) -> Touch (fun k => k = gd) w w' -> Moved (repTell gd gw) w F ([], h) w' := by
 obtain ⟨p, v, F1, F2, h1, h2, hd, hF⟩ := hh;refine ⟨p, v, h2.2, fun w' hb ht => ?_⟩;have hg : F2 gd := (h2.1 gd).2 rfl;have h1' : (repWorld gw).on w' F1 h := (repWorld gw).keep h1 fun k hk => ht.block k ((repWorld gw).lt h1 k hk) fun e => hd k hk (e ▸ hg);refine ⟨fun k => F1 k \/ k = gd, ⟨.pointer none, vNull, .inl rfl, fun _ => rfl, F1, fun k => k = gd, h1', ⟨fun k => k = gd, fun _ => False, ⟨fun _ => Iff.rfl, hb⟩, ⟨fun k => ⟨False.elim, fun e => by simp [Value.ownBlock] at e⟩, Owns.nil _ _⟩, fun _ _ => id, fun k => by simp⟩, fun k a b => hd k a (b ▸ hg), fun _ => Iff.rfl⟩, ht.mono fun k hk => .inl ((hF k).2 (.inr (hk ▸ hg))), fun k hk => .inl ((hF k).2 ?_)⟩;rcases hk with hk | hk
 ·exact .inl hk
 ·exact .inr (hk ▸ hg)
theorem tell_shut (hh : (repTell gd gw).on w F (t, h)) : ∃ p v, DeskAt w gd gw p v t /\
 ∀ w', w'.heap[gd]? = some (.cells (deskCells p v gw) 44 (0, 0)) -> Touch (fun k => v.ownBlock = some k) w w' -> Moved (repDesk gd gw) w F h w' := by
 obtain ⟨p, v, hp, hv, F1, F2, h1, ⟨F3, F4, h3, h4, hd34, hF2⟩, hd, hF⟩ := hh;refine ⟨p, v, ⟨hp, hv, h3.2, h4.2, fun e => hd34 gd ((h3.1 gd).2 rfl) ((h4.1 gd).2 e)⟩, fun w' hb ht => ?_⟩;have hg : F2 gd := (hF2 gd).2 (.inl ((h3.1 gd).2 rfl));have hT : ∀ k, v.ownBlock = some k -> F2 k := fun k hk => (hF2 k).2 (.inr ((h4.1 k).2 hk));have h1' : (repWorld gw).on w' F1 h := (repWorld gw).keep h1 fun k hk => ht.block k ((repWorld gw).lt h1 k hk) fun e => hd k hk (hT k e);refine ⟨fun k => F1 k \/ k = gd, ⟨p, v, F1, fun k => k = gd, h1', ⟨fun _ => Iff.rfl, hb⟩, fun k a b => hd k a (b ▸ hg), fun _ => Iff.rfl⟩, ht.mono fun k hk => .inl ((hF k).2 (.inr (hT k hk))), fun k hk => .inl ((hF k).2 ?_)⟩;rcases hk with hk | hk
 ·exact .inl hk
 ·exact .inr (hk ▸ hg)
end
def NewDesk (W : World) (e : Ending) (w' : World) : Prop := ∃ gd gw, e = .returned (.pointer (some ⟨gd, 0, none⟩)) /\ Has (repDesk gd gw) W w' hNew
theorem desk_new (W : World) : Calls Tryz.prog 6 #[] W (NewDesk W) := by
 go_enter Tryz.func6, Tryz.ntmps6
 go_wp2_with fail
 refine (world_new W).mono ?_;rintro e w1 ⟨gw, rfl, hn⟩;have H1 := lh (hn.box (deskCells (.pointer none) vNull gw) 44);clear hn;go_wp2
 go_ret
 exact ⟨_, gw, rfl, H1.out.map fun F hF => ⟨_, _, hF⟩⟩
section
variable {X : Type} {S : Rep X} {x : X} {W w : World} {gd gw : Nat} {h : House}
def DeskPost {X : Type} (S : Rep X) (x : X) (W : World) (gd gw : Nat) (q : (List UInt8 × FaultD) × House) (e : Ending) (w' : World) : Prop :=
 e = .returned (.tuple #[.string (mkStr q.1.1), .agg q.1.2.cells]) /\ Has (S.and (repDesk gd gw)) W w' (x, q.2)
abbrev BF (b : Nat) : Rep (Array Value) := repBlock b 31
structure RowShut {X Y : Type} (S : Rep X) (R : Rep Y) (W w : World) (x : X) (y : Y) (b : Nat) (d : FaultD) : Prop where
 has : Has (S.and R) W ((w.setCell ⟨b, 0, none⟩ (.int .i64 d.code)).setCell ⟨b, 1, none⟩ (.int .i64 d.at_)) (x, y)
 row : ((w.setCell ⟨b, 0, none⟩ (.int .i64 d.code)).setCell ⟨b, 1, none⟩ (.int .i64 d.at_)).heap[b]? = some (.cells d.cells 31 (0, 0))
 c0 : ∃ v : Int, w.cell? ⟨b, 0, none⟩ = some (.int .i64 v)
 f0 : w.frozen? ⟨b, 0, none⟩ = false
 c1 : ∃ v : Int, (w.setCell ⟨b, 0, none⟩ (.int .i64 d.code)).cell? ⟨b, 1, none⟩ = some (.int .i64 v)
 f1 : (w.setCell ⟨b, 0, none⟩ (.int .i64 d.code)).frozen? ⟨b, 1, none⟩ = false
theorem row_shut {Y : Type} {R : Rep Y} {y : Y} {b : Nat} {c : FaultD} (H : Has ((S.and (BF b)).and R) W w ((x, c.cells), y)) (d : FaultD) : RowShut S R W w x y b d := by
 have hb : w.heap[b]? = some (.cells c.cells 31 (0, 0)) := H.left.blk;have hb1 := setCell_heap hb 0 (.int .i64 d.code);have hb2 := setCell_heap hb1 1 (.int .i64 d.at_);have hb' : ((w.setCell ⟨b, 0, none⟩ (.int .i64 d.code)).setCell ⟨b, 1, none⟩ (.int .i64 d.at_)).heap[b]? = some (.cells d.cells 31 (0, 0)) := hb2;have ht := ((Touch.refl (fun k => k = b) w).setCell (a := ⟨b, 0, none⟩) (.inl rfl) (.int .i64 d.code)).setCell (a := ⟨b, 1, none⟩) (.inl rfl) (.int .i64 d.at_);exact ⟨(((H.exch').turn ht hb').exch').drop, hb', ⟨_, (cell_of hb 0).trans rfl⟩, frozen_of hb 0, ⟨_, (cell_of hb1 1).trans rfl⟩, frozen_of hb1 1⟩
def NlRel (w1 : World) (L : List (List UInt8)) (i : Value) (wr : World) : Prop := ∃ k : Nat, i = .int .i64 k /\ k <= L.length /\ (∀ j s, j < k -> L[j]? = some s -> hasNl s = false) /\ w1 = wr
def DoRel {Y : Type} (R : Rep Y) (y : Y) (W : World) (gd gw : Nat) (h : House) (L : List (List UInt8)) (i : Value) (wr : World) : Prop :=
 ∃ k : Nat, i = .int .i64 k /\ k <= L.length /\ Has (TR R gd gw) W wr (y, dLines h (L.take k))
theorem desk_do (H : Has (S.and (repDesk gd gw)) W w (x, h)) (hL : LaidD W) (hok : DeskOk h) (A : Option Addr) (n c : Nat) (l : List ByteArray) (hr : ∀ (w' : World) {Y : Type} {R : Rep Y} (y : Y), Has (S.and R) W w' (x, y) -> Reads w' w'.heap.size A l) (hn : n = l.length) (hs : ∀ s ∈ l, s.size <= 10000) :
 Calls Tryz.prog 8 #[.pointer (some ⟨gd, 0, none⟩), .slice A n c] w (DeskPost S x W gd gw (dDo h (l.map (·.toList)))) := by
 subst hn;have HL := lh hL;have HOK := lh hok;have HR := lh (fun (w' : World) (y : House) => hr w' (R := repDesk gd gw) y);have HR2 := lh (fun (w' : World) (y : List UInt8 × House) => hr w' (R := repTell gd gw) y);have HS := lh hs;have H1 := lh (H.box (FaultD.mk 0 0).cells 31).exch';clear H hL hok hr hs;go_enter Tryz.func8, Tryz.ntmps8
 go_upto_region 1 with fail
 change Code.wp Tryz.prog _ _ _ (w.alloc (.cells (FaultD.mk 0 0).cells 31));generalize w.alloc (.cells (FaultD.mk 0 0).cells 31) = w1 at H1 ⊢;generalize w.heap.size = b at H1 ⊢;have hb1 : w1.heap[b]? = some (.cells (FaultD.mk 0 0).cells 31 (0, 0)) := H1.out.left.blk;have HB1 := lh hb1;generalize hLL : l.map (·.toList) = L at *;have HLL := lh hLL;have hlen : L.length = l.length := by rw [<- hLL, List.length_map]
 clear hLL;by_cases hbig : 150 < L.length
 ·have HD := lh (show dDo h L = (([], ⟨13, -1⟩), h) by
   have e : lFault L = ⟨13, -1⟩ := by unfold lFault; rw [if_pos hbig]
   unfold dDo;rw [if_pos (by rw [e]; decide), e])
  have hsh := row_shut H1.out (FaultD.mk 13 (-1));have hgt : (150 : Int) < (l.length : Int) := by omega
  have HSH := lh hsh;obtain ⟨v0, hc0⟩ := hsh.c0;obtain ⟨v1, hc1⟩ := hsh.c1;have hf0 := hsh.f0;have hf1 := hsh.f1;clear hsh hbig hlen hb1;go_wp2
  refine bodyPost_ret (results_tmp_cell rfl _ _ ⟨b, 0, none⟩ (.agg (FaultD.mk 13 (-1)).cells) rfl (load_block isFault HSH.out.row)) rfl ?_;rw [HLL.out, HD.out];exact ⟨rfl, HSH.out.has⟩
 ·have hngt : ¬ (150 : Int) < (l.length : Int) := by omega
  go_wp2_with fail
  go_loopw [16] (fun i wr => NlRel w1 L i wr) (fun i _ => L.length - (intOf i).toNat)
  case atStart => exact ⟨0, rfl, Nat.zero_le _, fun j s hj => by omega, rfl⟩
  case round =>
   obtain ⟨k, rfl, hk, hno, rfl⟩ := hrel;have HNO := lh hno;clear hno;by_cases hlt : k < L.length
   ·obtain ⟨s, hsx⟩ : ∃ s, l[k]? = some s := ⟨l[k], by simp [<- hlen, hlt]⟩
    obtain ⟨ad, rfl, hct'⟩ := cell_text (HR.out _ _ H1.out.drop) hsx;have hct := hct' w1 (Touch.refl _ _);have HLK := lh (show L[k]? = some s.toList by rw [<- HLL.out, List.getElem?_map, hsx]; rfl);have hsz := HS.out s (List.mem_of_getElem? hsx);obtain ⟨m, hm⟩ := (HL.out.ext H1.out.ext).laid.max;have hlt' : (k : Int) < (l.length : Int) := by omega
    clear hsx hct';go_wp2_with fail
    refine (strings_Contains s ⟨#[10]⟩ m w1 (by omega) hm).mono ?_;rw [<- ByteArray.toList_eq];rintro e w' ⟨rfl, rfl⟩;cases hnl : Lib.contains s.toList [10] with
    | true =>
      have HD := lh (show dDo h L = (([], ⟨14, k⟩), h) by
       have e : lFault L = ⟨14, k⟩ := lFault_at hbig HNO.out HLK.out hnl;unfold dDo;rw [if_pos (by rw [e]; show (14 : Int) ≠ 0; decide), e])
      have hsh := row_shut H1.out (FaultD.mk 14 k);have HSH := lh hsh;obtain ⟨v0, hc0⟩ := hsh.c0;obtain ⟨v1, hc1⟩ := hsh.c1;have hf0 := hsh.f0;have hf1 := hsh.f1;clear hsh hbig hlen hb1 hnl;go_wp2
      refine bodyPost_ret (results_tmp_cell rfl _ _ ⟨b, 0, none⟩ (.agg (FaultD.mk 14 k).cells) rfl (load_block isFault HSH.out.row)) rfl ?_;rw [HLL.out, HD.out];exact ⟨rfl, HSH.out.has⟩
    | false =>
      go_wp2
      go_roundw
      case rel =>
       refine ⟨k + 1, by go_num, by omega, fun j u hj hu => ?_, rfl⟩;by_cases e : j = k
       ·subst e;rw [HLK.out] at hu;injection hu with hu;subst hu;exact hnl
       ·exact HNO.out j u (by omega) hu
      case measure => simp [intOf]; omega
   ·obtain rfl : k = L.length := by omega
    have HD := lh (show dDo h L = (((dLines h L).1, ⟨0, 0⟩), (dLines h L).2) by
     have e : lFault L = ⟨0, 0⟩ := lFault_none hbig HNO.out;unfold dDo;rw [if_neg (by rw [e]; decide)])
    clear HNO hb1;obtain ⟨F2, hF2, hm2⟩ := H1.out.snd2;obtain ⟨p, v, hbd, hto⟩ := desk_on hF2;have HM2 := lh (fun w' h1 h2 => hm2 (S' := repTell gd gw) ([], h) w' (hto w' h1 h2));have HBD := lh hbd;have hl' : ¬ ((L.length : Int) < (l.length : Int)) := by omega
    clear hF2 hm2 hto hbd;go_wp2_with fail
    refine (desk_reset w1 gd gw p v HBD.out).mono ?_;rintro e w2 ⟨rfl, hb2, ht2⟩;have H2 := lh (HM2.out w2 hb2 ht2);clear hb2 ht2 HM2 HBD H1;go_wp2_with fail
    go_loopw [32] (fun i wr => DoRel (S.and (BF b)) (x, (FaultD.mk 0 0).cells) W gd gw h L i wr) (fun i _ => L.length - (intOf i).toNat)
    case atStart => exact ⟨0, rfl, Nat.zero_le _, by simpa [dLines] using H2.out⟩
    case round =>
     clear H2;obtain ⟨k, rfl, hk, hz⟩ := hrel;have HZ := lh hz;clear hz;by_cases hlt : k < L.length
     ·obtain ⟨s, hsx⟩ : ∃ s, l[k]? = some s := ⟨l[k], by simp [<- hlen, hlt]⟩
      obtain ⟨ad, rfl, hct'⟩ := cell_text (HR2.out _ _ HZ.out.drop) hsx;have hct := hct' wr (Touch.refl _ _);have HLK := lh (show L[k]? = some s.toList by rw [<- HLL.out, List.getElem?_map, hsx]; rfl);have hsz := HS.out s (List.mem_of_getElem? hsx);have hlt' : (k : Int) < (l.length : Int) := by omega
      have HOK2 := lh (dLines_ok HOK.out (L.take k));have hll := dLines_len HOK.out (L.take k);have htk : (L.take k).length <= 150 := by rw [List.length_take]; omega
      have hmul : 100000 * (L.take k).length <= 100000 * 150 := Nat.mul_le_mul_left _ htk;have HTK := lh (dLines_take (h := h) HLK.out);clear hsx hct';go_wp2_with fail
      have HZ' := lh (show Has (TR (S.and (BF b)) gd gw) W wr ((x, (FaultD.mk 0 0).cells), ((dLines h (L.take k)).1, (dLines h (L.take k)).2)) from HZ.out);generalize dLines h (L.take k) = Z at *;refine (desk_line HZ'.out HL.out HOK2.out s hsz (by omega)).mono ?_;rintro e w3 ⟨rfl, H3⟩;have H4 := lh (show Has (TR (S.and (BF b)) gd gw) W w3 ((x, (FaultD.mk 0 0).cells), dLines h (L.take (k + 1))) from by rw [HTK.out]; exact H3);clear H3;go_wp2
      go_roundw
      case rel => exact ⟨k + 1, by go_num, by omega, H4.out⟩
      case measure => simp [intOf]; omega
     ·obtain rfl : k = L.length := by omega
      have hz2 := HZ.out;rw [List.take_length] at hz2;generalize hdl : dLines h L = Z at *;obtain ⟨T, h'⟩ := Z;have HZ2 := lh hz2;have hl2 : ¬ ((L.length : Int) < (l.length : Int)) := by omega
      obtain ⟨F5, hF5, hm5⟩ := hz2.snd2;obtain ⟨p5, v5, hA5, hto5⟩ := tell_shut hF5;have HM5 := lh (fun w' h1 h2 => hm5 (S' := repDesk gd gw) h' w' (hto5 w' h1 h2));have HA5 := lh hA5;clear hz2 hF5 hm5 hto5 hA5 HZ
      have hstr : Calls Tryz.prog 16 #[.pointer (some ⟨gd, 0, none⟩)] wr fun e w' => e = .returned (.string (mkStr T)) /\ Has ((S.and (BF b)).and (repDesk gd gw)) W w' ((x, (FaultD.mk 0 0).cells), h') := by
       by_cases hT : T = []
       ·subst hT;have hv := HA5.out.nil rfl;subst hv;refine (desk_string_nil wr gd gw p5 HA5.out.cell).mono ?_;rintro e w' ⟨rfl, hx⟩;exact ⟨rfl, HM5.out w' (hx.blk HA5.out.cell id) (hx.mono fun _ h => h.elim)⟩
       ·refine (desk_string_some wr gd gw p5 v5 T HA5.out hT).mono ?_;rintro e w' ⟨rfl, hb, ht⟩;exact ⟨rfl, HM5.out w' hb ht⟩
      go_wp2_with fail
      refine hstr.mono ?_;rintro e w5 ⟨rfl, H5⟩;have hsh := row_shut H5 (FaultD.mk 0 0);have HSH := lh hsh;obtain ⟨v0, hc0⟩ := hsh.c0;obtain ⟨v1, hc1⟩ := hsh.c1;have hf0 := hsh.f0;have hf1 := hsh.f1;clear hsh H5 hstr;go_wp2
      refine bodyPost_ret (results_tmp_cell rfl _ _ ⟨b, 0, none⟩ (.agg (FaultD.mk 0 0).cells) rfl (load_block isFault HSH.out.row)) rfl ?_;rw [HLL.out, HD.out];exact ⟨rfl, HSH.out.has⟩
end
end Go.Proofs.YtalfbhhldfffkaaGreatDoor
