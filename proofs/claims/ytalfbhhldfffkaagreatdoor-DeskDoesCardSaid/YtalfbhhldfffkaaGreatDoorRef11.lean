/- Ref11: the walk of the reference's Do. -/
import Derived.Test.YtalfbhhldfffkaaGreatDoorRef10
set_option maxHeartbeats 8000000
set_option maxRecDepth 100000
namespace Go.Proofs.YtalfbhhldfffkaaGreatDoor
open Go.RowKit
section
variable {X : Type} {S : Rep X} {x : X} {W w : World} {gr gh : Nat} {t : List UInt8} {h : House}
theorem ref_line (H : Has (RR S gr gh) W w (x, (t, h))) (hL : LaidD W) (hok : DeskOk h) (s : ByteArray) (hs : s.size <= 10000) (ht : t.length <= 100000000) :
 Calls Tryz.prog 18 #[.pointer (some ⟨gr, 0, none⟩), .string s] w (RTells S x W gr gh (t ++ (dLine h s.toList).1, (dLine h s.toList).2) (.tuple #[])) := by
 cases ha : isAsk s.toList with
 | true => exact ref_line_ask H hL hok s hs ht ha
 | false => exact ref_line_talk H hL hok s hs ht ha
def RDoRel {X : Type} (S : Rep X) (x : X) (W : World) (gr gh : Nat) (h : House) (L : List (List UInt8)) (i : Value) (wr : World) : Prop :=
 ∃ k : Nat, i = .int .i64 k /\ k <= L.length /\ Has (RR S gr gh) W wr (x, dLines h (L.take k))
theorem ref_do (H : Has (RR S gr gh) W w (x, (t, h))) (hL : LaidD W) (hok : DeskOk h) (A : Option Addr) (n c : Nat) (l : List ByteArray) (hr : ∀ (w' : World) {Y : Type} {R : Rep Y} (y : Y), Has (S.and R) W w' (x, y) -> Reads w' w'.heap.size A l) (hn : n = l.length) (hs : ∀ s ∈ l, s.size <= 10000) (hl : l.length <= 150) :
 Calls Tryz.prog 10 #[.pointer (some ⟨gr, 0, none⟩), .slice A n c] w (RTells S x W gr gh (dLines h (l.map (·.toList))) (.string (mkStr (dLines h (l.map (·.toList))).1))) := by
 subst hn;have HL := lh hL;have HOK := lh hok;have HR := lh (fun (w' : World) (y : List UInt8 × House) => hr w' (R := repRef gr gh) y);have HS := lh hs;have hc0 := ref_told H;have hf0 := frozen_of (ref_blk H) 0;have H1 := lh (ref_tell H []);clear H hL hok hr hs;generalize hLL : l.map (·.toList) = L at *;have HLL := lh hLL;have hlen : L.length = l.length := by rw [<- hLL, List.length_map]
 clear hLL;go_enter Tryz.func10, Tryz.ntmps10
 go_upto_region 2 with fail
 change Code.wp Tryz.prog _ _ _ (w.setCell ⟨gr, 0, none⟩ (.string (mkStr [])));generalize w.setCell ⟨gr, 0, none⟩ (.string (mkStr [])) = w1 at H1 ⊢;clear hc0 hf0;go_wp2_with fail
 go_loopw [5] (fun i wr => RDoRel S x W gr gh h L i wr) (fun i _ => L.length - (intOf i).toNat)
 case atStart => exact ⟨0, rfl, Nat.zero_le _, by simpa [dLines] using H1.out⟩
 case round =>
  clear H1;obtain ⟨k, rfl, hk, hz⟩ := hrel;have HZ := lh hz;clear hz;by_cases hlt : k < L.length
  ·obtain ⟨s, hsx⟩ : ∃ s, l[k]? = some s := ⟨l[k], by simp [<- hlen, hlt]⟩
   obtain ⟨ad, rfl, hct'⟩ := cell_text (HR.out _ _ HZ.out) hsx;have hct := hct' wr (Touch.refl _ _);have HLK := lh (show L[k]? = some s.toList by rw [<- HLL.out, List.getElem?_map, hsx]; rfl);have hsz := HS.out s (List.mem_of_getElem? hsx);have hlt' : (k : Int) < (l.length : Int) := by omega
   have HOK2 := lh (dLines_ok HOK.out (L.take k));have hll := dLines_len HOK.out (L.take k);have htk : (L.take k).length <= 150 := by rw [List.length_take]; omega
   have hmul : 100000 * (L.take k).length <= 100000 * 150 := Nat.mul_le_mul_left _ htk;have HTK := lh (dLines_take (h := h) HLK.out);clear hsx hct';go_wp2_with fail
   have HZ' := lh (show Has (RR S gr gh) W wr (x, ((dLines h (L.take k)).1, (dLines h (L.take k)).2)) from HZ.out);generalize dLines h (L.take k) = Z at *;refine (ref_line HZ'.out HL.out HOK2.out s hsz (by omega)).mono ?_;rintro e w3 ⟨rfl, H3⟩;have H4 := lh (show Has (RR S gr gh) W w3 (x, dLines h (L.take (k + 1))) from by rw [HTK.out]; exact H3);clear H3;go_wp2
   go_roundw
   case rel => exact ⟨k + 1, by go_num, by omega, H4.out⟩
   case measure => simp [intOf] <;> omega
  ·obtain rfl : k = L.length := by omega
   have hz2 := HZ.out;rw [List.take_length] at hz2;have hc2 := ref_told (t := (dLines h L).1) (h := (dLines h L).2) hz2;have HZ2 := lh hz2;have hl' : ¬ ((L.length : Int) < (l.length : Int)) := by omega
   clear hz2 HZ;go_wp2
   go_ret
   exact ⟨rfl, HZ2.out⟩
end
end Go.Proofs.YtalfbhhldfffkaaGreatDoor
