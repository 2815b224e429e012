/- TextOf: the walk of the reference's TextOf. -/
import Derived.Test.YtalfbhhldfffkaaGreatDoorGStory
import Derived.Test.YtalfbhhldfffkaaGreatDoorGDrawer
import Derived.Test.YtalfbhhldfffkaaGreatDoorGStore
set_option maxHeartbeats 8000000
set_option maxRecDepth 100000
namespace Go.Proofs.YtalfbhhldfffkaaGreatDoor
open Go.RowKit
def TextOfRel (w5 : World) (l : List FileD) (s i : Value) (wr : World) : Prop :=
 ∃ k : Nat, i = .int .i64 k /\ k <= l.length /\ s = .string (mkStr (fshow (l.take k))) /\ Ext w5 wr
def TextOfPost (w : World) (L : List Record) (e : Ending) (w' : World) : Prop := e = .returned (.string (mkStr (fshow (fbehind L)))) /\ Ext w w'
theorem ref_textOf (w : World) (B : Nat) (A : Option Addr) (n c : Nat) (L : List Record) (hr : Reads w B A L) (hB : B <= w.heap.size) (hn : n = L.length) (hs : ∀ r ∈ L, RecOk r) (hl : L.length <= 100000) :
 Calls Tryz.prog 45 #[.slice A n c] w (TextOfPost w L) := by
 subst hn;have HR := lh hr;have HS := lh (show ∀ r ∈ L, StrCall r.call from fun r h => recok_str (hs r h));have HOK := lh (fbehind_ok L);have HSRT := lh (behind_srt L);have HDOK := lh (behind_dok L);clear hr hs;go_enter Tryz.func45, Tryz.ntmps45
 go_wp2_with fail
 refine (ref_behind w B A L.length c L HR.out hB rfl HS.out hl).mono ?_;rintro e w2 ⟨gd, rfl, hd2⟩;obtain ⟨F, ⟨v, _, hh⟩, _⟩ := hd2.one;have X2 := lh hd2.ext;obtain ⟨Ad, cd, rfl, _⟩ := hh.own.form;have HH := lh hh;have HC := lh hh.cell;have HN := lh (show dNames (dbehind L) = (fbehind L).map (·.name) from (behind_srt L).names);have hdl := HDOK.out.len;have hll := HOK.out.len;have HLE := lh (fshow_len HOK.out);have hc0 := cell_of hh.cell 0;replace hc0 : w2.cell? ⟨gd, 0, none⟩ = some (.slice Ad (dbehind L).length cd) := hc0;clear hd2 hh;generalize dbehind L = d at *;generalize hfl : fbehind L = l at *;have HFL := lh hfl;clear hfl;go_wp2_with fail
 refine (drawer_names w2 Ad cd d HH.out.own.reads (by omega)).mono ?_;rintro e w5 ⟨A5, c5, he5, ho5, hx5, _⟩;rw [HN.out] at he5 ho5;rw [List.length_map] at he5 ho5;subst he5;have HO5 := lh ho5;have X5 := lh hx5;clear ho5 hx5 hc0;go_wp2_with fail
 go_loopw [4, 6] (fun s i wr => TextOfRel w5 l s i wr) (fun _ i _ => l.length - (intOf i).toNat)
 case atStart => exact ⟨0, rfl, Nat.zero_le _, rfl, Touch.refl _ _⟩
 case round =>
  obtain ⟨k, rfl, hk, rfl, hx⟩ := hrel;have HX := lh hx;clear hx;by_cases hlt : k < l.length
  ·obtain ⟨f, hf⟩ : ∃ f, l[k]? = some f := ⟨l[k], by simp [hlt]⟩
   obtain ⟨an, rfl, hanb, hat⟩ := HO5.out.reads k f.name (by simp [hf]);have hcn : w5.cell? (an.add k) = some (.string f.name) := by have := hat 0 (.string f.name) rfl; rwa [addr_add_add, show k * Lies.size ByteArray + 0 = k from Nat.mul_one k] at this
   obtain ⟨j, x, hj, hx', hd, _⟩ := HSRT.out.some (dAt_of HSRT.out.1.names hf);obtain rfl : x = f := by rw [hf] at hx'; exact (Option.some.inj hx').symm
   obtain ⟨ad, rfl, hadb, hatd⟩ := HH.out.own.reads j x hd;have hadk : (ad.add (j * Lies.size FileD)).block = ad.block := by unfold Addr.add; split <;> rfl
   have hank : (an.add k).block = an.block := by unfold Addr.add; split <;> rfl
   have hjl : (j : Int) < d.length := by have := (lG hd).1; omega
   have HF := lh (show ∀ w', Ext wr w' -> w'.cell? ⟨gd, 0, none⟩ = some (.slice (some ad) d.length cd) /\ w'.cell? (an.add k) = some (.string x.name) /\ w'.cell? ⟨(ad.add (j * 2)).block, (ad.add (j * 2)).off + 1, none⟩ = some (.string x.text) /\ Reads w' w'.heap.size (some ad) d from fun w' hx => by
    have h5 := HX.out.trans hx;have h2 := X5.out.trans h5;refine ⟨(cell_of (h2.blk HC.out id) 0).trans rfl, ?_, ?_, HH.out.own.reads.ext h2⟩
    ·exact (World.cell?_of_block (w := w5) (w' := w') (a := an.add k) (h5.block _ (by rw [hank]; exact hanb) id)).trans hcn
    ·exact (hatd.of_same (w' := w') (by rw [hadk]; exact h2.block _ hadb id)) 1 _ rfl)
   have hns : x.name.size <= 5 := okText_le (HOK.out.each x (List.mem_of_getElem? hf)).1;have hts : x.text.size <= 16 := (HOK.out.each x (List.mem_of_getElem? hf)).2;obtain ⟨J, hJ⟩ : ∃ J, mkStr (fshow (l.take k)) = J := ⟨_, rfl⟩
   have hjs : J.size <= 138 := by
    have h1 := fshow_take_le l k;have h2 := HLE.out;rw [<- hJ, mkStr_size];omega
   have h1 : (x.name ++ (⟨#[61]⟩ : ByteArray)).size <= 6 := by rw [ByteArray.size_append]; show _ + 1 <= 6; omega
   have h2 : (x.name ++ (⟨#[61]⟩ : ByteArray) ++ x.text).size <= 22 := by rw [ByteArray.size_append]; omega
   have h3 : (x.name ++ (⟨#[61]⟩ : ByteArray) ++ x.text ++ (⟨#[10]⟩ : ByteArray)).size <= 23 := by rw [ByteArray.size_append]; show _ + 1 <= 23; omega
   have g1 : ¬ 9223372036854775807 < x.name.size + 1 := by omega
   have g2 : ¬ 9223372036854775807 < x.name.size + 1 + x.text.size := by omega
   have g3 : ¬ 9223372036854775807 < x.name.size + 1 + x.text.size + 1 := by omega
   have g4 : ¬ 9223372036854775807 < J.size + (x.name.size + 1 + x.text.size + 1) := by omega
   have HJ := lh (show J ++ (x.name ++ (⟨#[61]⟩ : ByteArray) ++ x.text ++ (⟨#[10]⟩ : ByteArray)) = mkStr (fshow (l.take (k + 1))) by rw [showOne_str, <- hJ, mkStr_app, fshow_take hf]);have HJA := lh hj;rw [hJ];clear hf hat hJ hj hd hatd hcn hx' hadk hank;go_wp2_with fail
   refine wp_region_held_drew (S := fun w' => Ext wr w') (by kernel_rfl) (Touch.drew (Touch.refl _ wr)) (fun hHeld => ?_);refine tK 0 ?_;try simp only [pS]
   refine tK 1 ?_;try simp only [pS]
   refine tK 2 ?_;try simp only [pS]
   refine tK 6 ?_;try simp only [pS]
   refine tK 9 ?_;try simp only [pS]
   refine tK 12 ?_;try simp only [pS]
   refine tK 13 ?_;try simp only [pS]
   refine tK 3 ?_;try simp only [pS]
   refine tK 7 ?_;try simp only [pS]
   refine tK 10 ?_;try simp only [pS]
   refine tK 14 ?_;try simp only [pS]
   refine tK 4 ?_ (hY := fun w' hw' => by
    have hh1 := (HF.out w' hw').2.1;go_simp;try with_reducible rfl)
   try simp only [pS]
   refine tK 8 ?_ (hY := fun w' hw' => by
    have hh1 := (HF.out w' hw').1;go_simp;try with_reducible rfl)
   try simp only [pS]
   refine tK 11 ?_ (hY := fun w' hw' => by
    have hh1 := (HF.out w' hw').1;go_simp;try with_reducible rfl)
   try simp only [pS]
   refine tK 15 ?_ (hY := fun w' hw' => by
    have hh1 := (HF.out w' hw').2.1;go_simp;try with_reducible rfl)
   try simp only [pS]
   refine tK 5 ?_;try simp only [pS]
   refine tC 16 fun K hK => ?_;go_simp;go_at_call 73
   refine (drawer_at_some _ _ (some ad) cd d x.name j (HF.out _ (Touch.drew (Touch.refl _ wr))).2.2.2 (by omega) HJA.out).mono ?_;rintro e w6 ⟨rfl, rfl⟩;refine hK.out _ _ hHeld (fun hHeld => ?_);clear hK K;try simp only [pS]
   refine tK 17 ?_;try simp only [pS]
   refine tK 18 ?_;try simp only [pS]
   refine tK 19 ?_ (hY := fun w' hw' => by
    have hh1 := (HF.out w' hw').2.2.1;go_simp;try with_reducible rfl)
   try simp only [pS]
   refine tK 20 ?_;try simp only [pS]
   refine tK 21 ?_;try simp only [pS]
   refine tK 22 ?_;try simp only [pS]
   refine tK 23 ?_;try simp only [pS]
   refine tD ?_;clear hHeld;go_wp2
   go_roundw
   case rel => exact ⟨k + 1, by go_num, by omega, by rw [HJ.out], HX.out.trans (Touch.drew (Touch.refl _ wr))⟩
   case measure => simp [intOf]; omega
  ·obtain rfl : k = l.length := by omega
   have HE := lh (List.take_length (l := l));go_wp2
   go_ret
   rw [HE.out, <- HFL.out];exact ⟨rfl, X2.out.trans (X5.out.trans HX.out)⟩
end Go.Proofs.YtalfbhhldfffkaaGreatDoor
