/- Ref6: the reference's words of a text. (And behind it: Ref1, Ref2, Ref3, Ref4, Ref5, Ref7, Ref8, Ref9.) -/
import Derived.Test.YtalfbhhldfffkaaGreatDoorTypes
import Derived.Test.YtalfbhhldfffkaaGreatDoorMem
import Derived.Test.YtalfbhhldfffkaaGreatDoorGBasis
import Derived.Test.YtalfbhhldfffkaaGreatDoorGPlain
import Derived.Test.YtalfbhhldfffkaaGreatDoorGDeskP
import Derived.Test.YtalfbhhldfffkaaGreatDoorGHouseC
import Derived.Test.YtalfbhhldfffkaaGreatDoorGDesk
import Derived.Test.YtalfbhhldfffkaaGreatDoorRecRead
import Derived.Test.YtalfbhhldfffkaaGreatDoorGDeskB
import Derived.Lib.IndexAny
import Derived.Test.YtalfbhhldfffkaaGreatDoorLine6
import Derived.Test.YtalfbhhldfffkaaGreatDoorTextOf
set_option maxHeartbeats 8000000
set_option maxRecDepth 100000
namespace Go.Proofs.YtalfbhhldfffkaaGreatDoor
open Go.RowKit
theorem toList_glue (a b : ByteArray) : (a ++ b).toList = a.toList ++ b.toList := by rw [ByteArray.toList_eq, ByteArray.toList_eq, ByteArray.toList_eq]; simp
theorem u8_blank {b : UInt8} : ((b.toNat : Int) = 32) ↔ b = 32 := by
 constructor
 ·intro h;exact UInt8.toNat_inj.1 (by show b.toNat = 32; omega)
 ·intro h;subst h;rfl
def wAt (s : ByteArray) (k : Nat) : List (List UInt8) × List UInt8 := wFold ((s.toList ++ [32]).take k)
theorem wAt_next {s : ByteArray} {k : Nat} {b : UInt8} (h : (s.toList ++ [32])[k]? = some b) : wAt s (k + 1) = wStep (wAt s k) b := wFold_take h
theorem wAt_byte {s : ByteArray} {k : Nat} (h : k < s.size) : (s.toList ++ [32])[k]? = some s[k] := by
 have hl : s.toList.length = s.size := length_toList' s;rw [List.getElem?_append_left (by omega), ByteArray.toList_eq];simp [h];rfl
theorem wAt_shut {s : ByteArray} : (s.toList ++ [32])[s.size]? = some 32 := by
 have hl : s.toList.length = s.size := length_toList' s;rw [List.getElem?_append_right (by omega), hl];simp
theorem wAt_end (s : ByteArray) : (wAt s (s.size + 1)).1 = wordsOf s.toList := by
 have hl : s.toList.length = s.size := length_toList' s;rw [wAt_next wAt_shut, <- wFold_words];unfold wAt;rw [List.take_append_of_le_length (by omega), List.take_of_length_le (by omega)];rfl
theorem wAt_bound (s : ByteArray) (k : Nat) : (wAt s k).1.length <= s.size + 1 /\ (wAt s k).2.length <= s.size + 1 := by
 have hl : s.toList.length = s.size := length_toList' s;have h := wFold_bounds ((s.toList ++ [32]).take k)
 have h2 : ((s.toList ++ [32]).take k).length <= s.size + 1 := by
  rw [List.length_take, List.length_append, hl];exact Nat.min_le_right _ _
 unfold wAt;omega
theorem wAt_word {s : ByteArray} {k : Nat} (h : k < s.size) (hb : s[k] ≠ 32) : wAt s (k + 1) = ((wAt s k).1, (wAt s k).2 ++ [s[k]]) := by
 rw [wAt_next (wAt_byte h)];unfold wStep;rw [if_neg hb]
theorem wAt_blank {s : ByteArray} {k : Nat} (h : (s.toList ++ [32])[k]? = some 32) : wAt s (k + 1) = (if (wAt s k).2 = [] then (wAt s k).1 else (wAt s k).1 ++ [(wAt s k).2], []) := by
 rw [wAt_next h];rfl
def WoRel (w : World) (s : ByteArray) (out cw i : Value) (wr : World) : Prop :=
 ∃ (k : Nat) (A : Option Addr) (c : Nat), i = .int .i64 k /\ k <= s.size + 1 /\ out = .slice A (wAt s k).1.length c /\ cw = .string (mkStr (wAt s k).2) /\ Owns wr 9 (.slice A (wAt s k).1.length c) ((wAt s k).1.map mkStr) /\ Ext w wr /\ ∀ q, (Value.slice A (wAt s k).1.length c).ownBlock = some q -> w.heap.size <= q
theorem mk_byte {s : ByteArray} {k : Nat} (h : k < s.size) (l : List UInt8) : mkStr l ++ s.extract k (k + 1) = mkStr (l ++ [s[k]]) := toList_inj (by
 rw [toList_glue, mkStr_toList, mkStr_toList];congr 1
 rw [ByteArray.toList_eq, ByteArray.data_extract, Array.toList_extract, List.extract_eq_take_drop];have hl : k < s.data.toList.length := by simpa using h
 rw [Nat.add_sub_cancel_left, List.drop_eq_getElem_cons hl];rfl)
theorem ref_words (w : World) (s : ByteArray) (hs : s.size <= 100000) : Calls Tryz.prog 39 #[.string s] w (NewList w 9 ((wordsOf s.toList).map mkStr)) := by
 go_enter Tryz.func39, Tryz.ntmps39
 go_wp2_with fail
 go_loopw [3, 4, 5] (fun out cw i wr => WoRel w s out cw i wr) (fun _ _ i _ => s.size + 1 - (intOf i).toNat)
 case atStart => exact ⟨0, none, 0, rfl, Nat.zero_le _, rfl, rfl, Owns.nil _ _, Touch.refl _ w, fun k hk => by simp [Value.ownBlock] at hk⟩
 case round =>
  obtain ⟨k, A1, c1, rfl, hk, rfl, rfl, ho, hx, hf⟩ := hrel;have HO := lh ho;have HX := lh hx;have HB := lh hf;have hbd := wAt_bound s k;clear ho hx hf;by_cases hend : k = s.size + 1
  ·have HE := lh (show (wAt s k).1 = wordsOf s.toList by rw [hend]; exact wAt_end s);have hgt : s.size < k := by omega
   clear hend;go_wp2
   go_ret
   have e := HE.out;unfold NewList;rw [<- e];exact ⟨A1, c1, by rw [List.length_map]; rfl, by rw [List.length_map]; exact HO.out, HX.out, by rw [List.length_map]; exact HB.out⟩
  ·have hk' : k <= s.size := by omega
   clear hk hend;by_cases hw : ∃ h : k < s.size, s[k] ≠ 32
   ·obtain ⟨hlt, hb⟩ := hw;have HW := lh (wAt_word hlt hb);have hb' : ((s[k].toNat : Int) != 32) = true := by rw [bne_iff_ne]; exact fun e => hb (u8_blank.1 e)
    have HM := lh (mk_byte hlt (wAt s k).2);have hz := mkStr_size (wAt s k).2;clear hb;have hk1 : (k : Int) + 1 <= s.size := by omega
    have hk0 : (0 : Int) <= (k : Int) + 1 := by omega
    have hk2 : ((k : Int) + 1).toNat = k + 1 := by omega
    have hwr : IntKind.i64.wrap ((k : Int) + 1) = (k : Int) + 1 := IntWalk.i64_in _ (by omega);go_wp2
    go_roundw
    case rel =>
     refine ⟨k + 1, A1, c1, by go_num, by omega, ?_, ?_, ?_, HX.out, ?_⟩
     ·rw [HW.out]
     ·rw [HW.out, HM.out]
     ·rw [HW.out]; exact HO.out
     ·rw [HW.out]; exact HB.out
    case measure => simp [intOf]; omega
   ·have hbl : (s.toList ++ [32])[k]? = some 32 := by
     rcases Nat.lt_or_ge k s.size with h | h
     ·rw [wAt_byte h];exact congrArg some (Decidable.not_not.1 fun e => hw ⟨h, e⟩)
     ·obtain rfl : k = s.size := by omega
      exact wAt_shut
    have HW := lh (wAt_blank hbl)
    have hlb : ∀ h : k < s.size, ((s[k].toNat : Int) != 32) = false := fun h => by
     rw [bne_eq_false_iff_eq];exact u8_blank.2 (Decidable.not_not.1 fun e => hw ⟨h, e⟩)
    clear hw;by_cases hlt : k < s.size
    ·have hb' := hlb hlt;clear hlb;by_cases he : (wAt s k).2 = []
     ·have hq : ((mkStr (wAt s k).2).toList == []) = true := by rw [mkStr_toList, he]; rfl
      rw [if_pos he] at HW;clear he;go_wp2
      go_roundw
      case rel =>
       refine ⟨k + 1, A1, c1, by go_num, by omega, ?_, ?_, ?_, HX.out, ?_⟩
       ·rw [HW.out]
       ·rw [HW.out]; rfl
       ·rw [HW.out]; exact HO.out
       ·rw [HW.out]; exact HB.out
      case measure => simp [intOf] <;> omega
     ·have hq : ((mkStr (wAt s k).2).toList == []) = false := by rw [mkStr_toList]; simpa using he
      rw [if_neg he] at HW;clear he;generalize wAt s k = Z at *
      go_wp2_with (at_builtin
                   go_loud (refine wpList_append_own' (by rfl) (.tmp 31) (.tmp 33) 22 (by rfl) elemString Tryz.underlying22 (v := _) (l := Z.1.map mkStr) (by rfl) (HO.out.ext ((Touch.refl _ wr).alloc _)) [mkStr Z.2] (by rfl) (Z.1.length + 1) (by simp) (by rfl) (reads_block (x := mkStr Z.2) (b := wr.heap.size) (by simp only [heap_alloc_at]; rfl) (wr.heap.size + 1) (by omega)) (by simp; omega) ?_)
                   intro A2 c2 w3 hown3 hgrow3 hat3;have HO3 := lh hown3;have HG3 := lh hgrow3;have HA3 := lh hat3;clear hown3 hgrow3 hat3)
      go_roundw
      case rel =>
       refine ⟨k + 1, A2, c2, by go_num, by omega, ?_, ?_, ?_, ?_, ?_⟩
       ·rw [HW.out]; simp
       ·rw [HW.out]; rfl
       ·rw [HW.out]; simpa using HO3.out
       ·exact (HX.out.alloc _).grown HG3.out fun q hq => .inr (HB.out q hq)
       ·rw [HW.out];intro q hq;rcases HA3.out with h | h
        ·have hq' : (Value.slice A2 (Z.1.length + 1) c2).ownBlock = some q := by simpa using hq
         rw [h] at hq'; exact HB.out q hq'
        ·have hq' : (Value.slice A2 (Z.1.length + 1) c2).ownBlock = some q := by simpa using hq
         rw [h] at hq';have h1 := Option.some.inj hq';have h2 := HX.out.size;have h3 : (wr.alloc (.cells #[.string (mkStr Z.2)] 9)).heap.size = wr.heap.size + 1 := World.size_alloc _ _;omega
      case measure => simp [intOf] <;> omega
    ·obtain rfl : k = s.size := by omega
     clear hlb;by_cases he : (wAt s s.size).2 = []
     ·have hq : ((mkStr (wAt s s.size).2).toList == []) = true := by rw [mkStr_toList, he]; rfl
      rw [if_pos he] at HW;clear he;go_wp2
      go_roundw
      case rel =>
       refine ⟨s.size + 1, A1, c1, by go_num, by omega, ?_, ?_, ?_, HX.out, ?_⟩
       ·rw [HW.out]
       ·rw [HW.out]; rfl
       ·rw [HW.out]; exact HO.out
       ·rw [HW.out]; exact HB.out
      case measure => simp [intOf] <;> omega
     ·have hq : ((mkStr (wAt s s.size).2).toList == []) = false := by rw [mkStr_toList]; simpa using he
      rw [if_neg he] at HW;clear he;generalize wAt s s.size = Z at *
      go_wp2_with (at_builtin
                   go_loud (refine wpList_append_own' (by rfl) (.tmp 31) (.tmp 33) 22 (by rfl) elemString Tryz.underlying22 (v := _) (l := Z.1.map mkStr) (by rfl) (HO.out.ext ((Touch.refl _ wr).alloc _)) [mkStr Z.2] (by rfl) (Z.1.length + 1) (by simp) (by rfl) (reads_block (x := mkStr Z.2) (b := wr.heap.size) (by simp only [heap_alloc_at]; rfl) (wr.heap.size + 1) (by omega)) (by simp; omega) ?_)
                   intro A2 c2 w3 hown3 hgrow3 hat3;have HO3 := lh hown3;have HG3 := lh hgrow3;have HA3 := lh hat3;clear hown3 hgrow3 hat3)
      go_roundw
      case rel =>
       refine ⟨s.size + 1, A2, c2, by go_num, by omega, ?_, ?_, ?_, ?_, ?_⟩
       ·rw [HW.out]; simp
       ·rw [HW.out]; rfl
       ·rw [HW.out]; simpa using HO3.out
       ·exact (HX.out.alloc _).grown HG3.out fun q hq => .inr (HB.out q hq)
       ·rw [HW.out];intro q hq;rcases HA3.out with h | h
        ·have hq' : (Value.slice A2 (Z.1.length + 1) c2).ownBlock = some q := by simpa using hq
         rw [h] at hq'; exact HB.out q hq'
        ·have hq' : (Value.slice A2 (Z.1.length + 1) c2).ownBlock = some q := by simpa using hq
         rw [h] at hq';have h1 := Option.some.inj hq';have h2 := HX.out.size;have h3 : (wr.alloc (.cells #[.string (mkStr Z.2)] 9)).heap.size = wr.heap.size + 1 := World.size_alloc _ _;omega
      case measure => simp [intOf] <;> omega
def refCells (t : List UInt8) (gh : Nat) : Array Value := #[.string (mkStr t), .pointer (some ⟨gh, 0, none⟩)]
def repRef (gr gh : Nat) : Rep (List UInt8 × House) where
 on w F z := ((repHouse gh).and (repBlock gr 48)).on w F (z.2, refCells z.1 gh)
 lt := fun h => Rep.lt _ h
 keep := fun h hk => Rep.keep _ h hk
abbrev RR {X : Type} (S : Rep X) (gr gh : Nat) : Rep (X × (List UInt8 × House)) := S.and (repRef gr gh)
def RTells {X : Type} (S : Rep X) (x : X) (W : World) (gr gh : Nat) (z : List UInt8 × House) (r : Value) (e : Ending) (w' : World) : Prop := e = .returned r /\ Has (RR S gr gh) W w' (x, z)
section
variable {X : Type} {S : Rep X} {x : X} {W w w' : World} {gr gh : Nat} {t t' : List UInt8} {h : House}
theorem ref_blk (H : Has (RR S gr gh) W w (x, (t, h))) : w.heap[gr]? = some (.cells (refCells t gh) 48 (0, 0)) := by
 obtain ⟨F, hF, _⟩ := H.snd;obtain ⟨G, hG, _⟩ := Rep.snd (show ((repHouse gh).and (repBlock gr 48)).on w F (h, refCells t gh) from hF);exact hG.2
theorem ref_ds (H : Has (RR S gr gh) W w (x, (t, h))) : w.cell? ⟨gr, 1, none⟩ = some (.pointer (some ⟨gh, 0, none⟩)) := (cell_of (ref_blk H) 1).trans rfl
theorem ref_told (H : Has (RR S gr gh) W w (x, (t, h))) : w.cell? ⟨gr, 0, none⟩ = some (.string (mkStr t)) := (cell_of (ref_blk H) 0).trans rfl
theorem ref_house (H : Has (RR S gr gh) W w (x, (t, h))) : ∃ F', (repHouse gh).on w F' h /\ ∀ h' w', Moved (repHouse gh) w F' h' w' -> Has (RR S gr gh) W w' (x, (t, h')) := by
 obtain ⟨F, hF, hm⟩ := H.snd;obtain ⟨G, hG, hm2⟩ := Rep.fst (show ((repHouse gh).and (repBlock gr 48)).on w F (h, refCells t gh) from hF);exact ⟨G, hG, fun h' w' m => hm (t, h') w' (hm2 h' w' m)⟩
theorem ref_tell (H : Has (RR S gr gh) W w (x, (t, h))) (t' : List UInt8) : Has (RR S gr gh) W (w.setCell ⟨gr, 0, none⟩ (.string (mkStr t'))) (x, (t', h)) := by
 have hb1 := setCell_heap (ref_blk H) 0 (.string (mkStr t'));obtain ⟨F, hF, hm⟩ := H.snd;obtain ⟨G, hG, hm2⟩ := Rep.snd (show ((repHouse gh).and (repBlock gr 48)).on w F (h, refCells t gh) from hF);exact hm (t', h) _ (hm2 (refCells t' gh) _ ⟨G, ⟨hG.1, hb1⟩, (Touch.refl G w).setCell (.inl ((hG.1 gr).2 rfl)) _, Fresh.refl _ _⟩)
theorem ref_say (H : Has (RR S gr gh) W w (x, (t, h))) (s : ByteArray) (hs : s.size <= 100000000) (ht : t.length <= 1000000000) :
 Calls Tryz.prog 36 #[.pointer (some ⟨gr, 0, none⟩), .string s] w (RTells S x W gr gh (t ++ s.toList ++ [10], h) (.tuple #[])) := by
 have hb := ref_blk H;have hc0 := ref_told H;have hf0 := frozen_of hb 0;have hz : (mkStr t).size = t.length := mkStr_size t;have hE : mkStr t ++ (s ++ (⟨#[10]⟩ : ByteArray)) = mkStr (t ++ s.toList ++ [10]) := toList_inj (by rw [toList_cat, toList_cat, mkStr_toList, mkStr_toList, List.append_assoc, show (⟨#[10]⟩ : ByteArray).toList = [10] from mkStr_toList [10]]);have H1 := lh (ref_tell H (t ++ s.toList ++ [10]));rw [<- hE] at H1;have h10 : (⟨#[10]⟩ : ByteArray).size = 1 := rfl;clear H hb hE;go_enter Tryz.func36, Tryz.ntmps36
 go_wp2
 all_goals first | omega | skip
 go_end0
 exact ⟨rfl, H1.out⟩
end
section
variable {X : Type} {S : Rep X} {x : X} {W w : World} {gr gh : Nat} {t : List UInt8} {h : House}
theorem no_code {c : Int} (hc : c ≠ 0) : ((⟨#[110, 111, 32]⟩ : ByteArray) ++ mkStr (Lib.itoa c)).toList ++ [10] = dCode c := by
 unfold dCode;rw [if_pos hc, toList_cat, mkStr_toList, lit_toList];simp [say, joinL, wNo]
theorem ok_code : (⟨#[111, 107]⟩ : ByteArray).toList ++ [10] = dCode 0 := by
 unfold dCode;rw [if_neg (by decide), lit_toList];simp [say, joinL, wOk]
def recLine (client no : Int) (c : Call) (a : Answer) : List UInt8 := Lib.itoa client ++ 32 :: (Lib.itoa no ++ 32 :: (cText c ++ 58 :: 32 :: ansLine a))
theorem recLine_say (client no : Int) (c : Call) (a : Answer) : recLine client no c a ++ [10] = say (recWords client no c a) := by
 simp [recLine, say, joinL, recWords]
theorem recLine_str (client no : Int) (c : Call) (a : Answer) : mkStr (Lib.itoa client) ++ (⟨#[32]⟩ : ByteArray) ++ mkStr (Lib.itoa no) ++ (⟨#[32]⟩ : ByteArray) ++ (callText c).1 ++ (⟨#[58, 32]⟩ : ByteArray) ++ mkStr (ansLine a) = mkStr (recLine client no c a) := by
 refine toList_inj ?_;have e1 : (⟨#[32]⟩ : ByteArray).toList = [32] := mkStr_toList [32];have e2 : (⟨#[58, 32]⟩ : ByteArray).toList = [58, 32] := mkStr_toList [58, 32];rw [toList_cat, toList_cat, toList_cat, toList_cat, toList_cat, toList_cat, mkStr_toList, mkStr_toList, mkStr_toList, mkStr_toList, e1, e2];simp [recLine, cText]
def RecTextPost (w : World) (client no : Int) (c : Call) (a : Answer) (e : Ending) (w' : World) : Prop := e = .returned (.string (mkStr (recLine client no c a))) /\ Ext w w'
theorem ref_recordText (w : World) (client no : Int) (c : Call) (a : Answer) (hL : LaidD w) (hr : TellOk client no c) (ha : ShortAns a) (hs : StrCall c) :
 Calls Tryz.prog 42 #[.int .i64 client, .int .i64 no, .agg c.cells, .agg a.cells] w (RecTextPost w client no c a) := by
 have HL := lh hL;have HR := lh hr;have HA := lh ha;have HS := lh hs;have hcs := ct_size hr.call;have hz1 : (mkStr (Lib.itoa client)).size <= 21 := by rw [mkStr_size]; exact num_le hr.client
 have hz2 : (mkStr (Lib.itoa no)).size <= 21 := by rw [mkStr_size]; exact num_le hr.no
 have hz3 : (mkStr (ansLine a)).size <= 130 := by rw [mkStr_size]; exact ansLine_len ha
 have he1 : (⟨#[32]⟩ : ByteArray).size = 1 := rfl;have he2 : (⟨#[58, 32]⟩ : ByteArray).size = 2 := rfl;clear hL hr ha hs;go_enter Tryz.func42, Tryz.ntmps42
 go_upto_region 1 with fail
 have hb0 : ((w.alloc (.cells c.cells 66)).alloc (.cells a.cells 101)).heap[w.heap.size + 1]? = some (.cells a.cells 101 (0, 0)) := heap_alloc_at _ _ _ (World.size_alloc _ _).symm;have hb1 : ((w.alloc (.cells c.cells 66)).alloc (.cells a.cells 101)).heap[w.heap.size]? = some (.cells c.cells 66 (0, 0)) := (heap_alloc_past _ _ _ (by rw [World.size_alloc]; omega)).trans (heap_alloc_new _ _);have X1 := lh (show Ext w ((w.alloc (.cells c.cells 66)).alloc (.cells a.cells 101)) from ((Touch.refl _ w).alloc _).alloc _);generalize (w.alloc (.cells c.cells 66)).alloc (.cells a.cells 101) = w1 at X1 hb0 hb1 ⊢;generalize w.heap.size + 1 = b at hb0 ⊢;generalize w.heap.size = b' at hb1 ⊢;go_wp2_with fail
 refine (ref_callText w1 c HS.out).mono ?_;rintro e w2 ⟨rfl, hx2⟩;have hb2 := hx2.blk hb0 id;have X2 := lh (X1.out.trans hx2);clear hx2 X1 hb0 hb1;go_wp2_with fail
 have HB := lh ((Touch.drew (Touch.refl (fun _ => False) w2)).blk hb2 id);have X3 := lh (X2.out.trans (Touch.drew (Touch.refl _ w2)));refine wp_region_held_drew (S := fun w' => w'.heap[b]? = some (.cells a.cells 101 (0, 0))) (by kernel_rfl) HB.out (fun hHeld => ?_);clear X2 hb2;refine tK 0 ?_;try simp only [pS]
 refine tK 3 ?_;try simp only [pS]
 refine tK 7 ?_;try simp only [pS]
 refine tK 10 ?_ (hY := fun w' hw' => by
  have hb := hw';go_simp;try with_reducible rfl)
 try simp only [pS]
 refine tC 1 fun K hK => ?_;go_simp;go_at_call 35
 refine (ref_num _ client HR.out.client (HL.out.ext X3.out).laid).mono ?_;rintro e w4 ⟨rfl, hx4⟩;have X4 := lh (X3.out.trans hx4);refine hK.out _ _ (hx4.blk (by assumption) id) (fun hHeld => ?_);clear hx4 X3;clear hK K;try simp only [pS]
 refine tV 2 (.string (mkStr (Lib.itoa client) ++ (⟨#[32]⟩ : ByteArray))) ?_ ?_
 ·intro w' _;go_simp;try simp only [ByteArray.size_append] at *
  omega
 try simp only [pS]
 refine tC 4 fun K hK => ?_;go_simp;go_at_call 35
 refine (ref_num _ no HR.out.no (HL.out.ext X4.out).laid).mono ?_;rintro e w5 ⟨rfl, hx5⟩;have X5 := lh (X4.out.trans hx5);refine hK.out _ _ (hx5.blk (by assumption) id) (fun hHeld => ?_);clear hx5 X4;clear hK K;try simp only [pS]
 refine tV 5 (.string (mkStr (Lib.itoa client) ++ (⟨#[32]⟩ : ByteArray) ++ mkStr (Lib.itoa no))) ?_ ?_
 ·intro w' _;go_simp;try simp only [ByteArray.size_append] at *
  omega
 try simp only [pS]
 refine tV 6 (.string (mkStr (Lib.itoa client) ++ (⟨#[32]⟩ : ByteArray) ++ mkStr (Lib.itoa no) ++ (⟨#[32]⟩ : ByteArray))) ?_ ?_
 ·intro w' _;go_simp;try simp only [ByteArray.size_append] at *
  omega
 try simp only [pS]
 refine tV 8 (.string (mkStr (Lib.itoa client) ++ (⟨#[32]⟩ : ByteArray) ++ mkStr (Lib.itoa no) ++ (⟨#[32]⟩ : ByteArray) ++ (callText c).1)) ?_ ?_
 ·intro w' _;go_simp;try simp only [ByteArray.size_append] at *
  omega
 try simp only [pS]
 refine tV 9 (.string (mkStr (Lib.itoa client) ++ (⟨#[32]⟩ : ByteArray) ++ mkStr (Lib.itoa no) ++ (⟨#[32]⟩ : ByteArray) ++ (callText c).1 ++ (⟨#[58, 32]⟩ : ByteArray))) ?_ ?_
 ·intro w' _;go_simp;try simp only [ByteArray.size_append] at *
  omega
 try simp only [pS]
 refine tC 11 fun K hK => ?_;go_simp;go_at_call 70
 refine (ref_answer _ a ⟨by have := HA.out.lo; omega, by have := HA.out.hi; omega⟩ (by have := HA.out.text; omega) (HL.out.ext X5.out).laid).mono ?_;rintro e w6 ⟨rfl, hx6⟩;have X6 := lh (X5.out.trans hx6);refine hK.out _ _ (hx6.blk (by assumption) id) (fun hHeld => ?_);clear hx6 X5;clear hK K;try simp only [pS]
 refine tV 12 (.string (mkStr (Lib.itoa client) ++ (⟨#[32]⟩ : ByteArray) ++ mkStr (Lib.itoa no) ++ (⟨#[32]⟩ : ByteArray) ++ (callText c).1 ++ (⟨#[58, 32]⟩ : ByteArray) ++ mkStr (ansLine a))) ?_ ?_
 ·intro w' _;go_simp;try simp only [ByteArray.size_append] at *
  omega
 try simp only [pS]
 refine tK 13 ?_;try simp only [pS]
 refine tD ?_;rw [recLine_str];go_wp2
 go_ret
 exact ⟨rfl, X6.out⟩
theorem ref_step (H : Has (RR S gr gh) W w (x, (t, h))) (hL : LaidD W) (hok : DeskOk h) (z : Step) (hz : StrWStep z) (ht : t.length <= 100000000) :
 Calls Tryz.prog 38 #[.pointer (some ⟨gr, 0, none⟩), .agg z.cells] w (RTells S x W gr gh (t ++ (dStep h z).1, (dStep h z).2) (.tuple #[])) := by
 have HL := lh hL;have HF := lh (show Fits h by obtain ⟨⟨fr, h1⟩, _⟩ := hok; exact h1.fits);have HZ := lh hz;have H1 := lh (H.box z.cells 85).exch';clear H hL hok hz;go_enter Tryz.func38, Tryz.ntmps38
 go_upto_region 1 with fail
 generalize w.alloc (.cells z.cells 85) = w1 at H1 ⊢;generalize w.heap.size = b at H1 ⊢;go_wp2_with fail
 refine wp_region_held_drew (S := fun w' => w'.cell? ⟨gr, 1, none⟩ = some (.pointer (some ⟨gh, 0, none⟩)) /\ w'.heap[b]? = some (.cells z.cells 85 (0, 0))) (by kernel_rfl) ⟨ref_ds (H1.out.step (Touch.drew (Touch.refl _ w1))), (H1.out.step (Touch.drew (Touch.refl _ w1))).left.blk⟩ (fun hHeld => ?_);refine tK 0 ?_;try simp only [pS]
 refine tK 1 ?_;try simp only [pS]
 refine tK 2 ?_;try simp only [pS]
 refine tK 3 ?_ (hY := fun w' hw' => by
  have hg := hw'.1;go_simp;try with_reducible rfl)
 try simp only [pS]
 refine tK 4 ?_ (hY := fun w' hw' => by
  have hb := hw'.2;go_simp;try with_reducible rfl)
 try simp only [pS]
 refine tC 5 fun K hK => ?_;go_simp;go_at_call 65
 have hx1 : Ext w1 w1.drew := Touch.drew (Touch.refl _ w1);obtain ⟨F2, hF2, hm2⟩ := ref_house (H1.out.step hx1);refine (house_step w1.drew gh F2 h z hF2 HF.out HZ.out).mono ?_;rintro e w2 ⟨rfl, hq2⟩;have h2 := hm2 _ _ hq2;have H2 := lh h2.drop;refine hK.out _ _ ⟨ref_ds h2, h2.left.blk⟩ (fun hHeld => ?_);clear hF2 hm2 hq2 h2 hx1;clear hK K;try simp only [pS]
 refine tK 6 ?_;try simp only [pS]
 refine tD ?_;clear hHeld H1;have hcode := hStep_code h z;have HD := lh (show dStep h z = (dCode (hStep h z).1, (hStep h z).2) from rfl);generalize (hStep h z).2 = h' at *;generalize (hStep h z).1 = c at *;by_cases hc : c = 0
 ·subst hc;go_wp2_with fail
  refine (ref_say H2.out ⟨#[111, 107]⟩ (by decide) (by omega)).mono ?_;rintro e w3 ⟨rfl, H3⟩;rw [List.append_assoc, ok_code] at H3;have H4 := lh H3;clear H3;go_wp2
  go_end0
  exact ⟨rfl, by rw [HD.out]; exact H4.out⟩
 ·have hn64 : Num64 c := ⟨by omega, by omega⟩
  have HNC := lh (no_code hc);have hz1 : (mkStr (Lib.itoa c)).size <= 21 := by rw [mkStr_size]; exact num_le hn64
  go_wp2_with fail
  refine (ref_num w2 c hn64 (HL.out.ext H2.out.ext).laid).mono ?_;rintro e w3 ⟨rfl, hx3⟩;have H3 := lh (H2.out.step hx3);clear hx3;go_wp2_with fail
  refine (ref_say H3.out ((⟨#[110, 111, 32]⟩ : ByteArray) ++ mkStr (Lib.itoa c)) (by rw [ByteArray.size_append]; have e : (⟨#[110, 111, 32]⟩ : ByteArray).size = 3 := rfl; omega) (by omega)).mono ?_;rintro e w4 ⟨rfl, H4⟩;rw [List.append_assoc, HNC.out] at H4;have H5 := lh H4;clear H4;go_wp2
  go_end0
  exact ⟨rfl, by rw [HD.out]; exact H5.out⟩
end
def repStill (w0 : World) (F0 : Nat -> Prop) : Rep Unit where
 on w F _ := (∀ k, F k ↔ F0 k) /\ ∀ k, F0 k -> k < w.heap.size /\ w.heap[k]? = w0.heap[k]?
 lt := fun h k hk => (h.2 k ((h.1 k).1 hk)).1
 keep := fun h hk => ⟨h.1, fun k hk0 => by
  have h1 := h.2 k hk0;have h2 := hk k ((h.1 k).2 hk0);refine ⟨?_, h2.trans h1.2⟩;have h3 := h1.1;exact (aG (h2.trans (Array.getElem?_eq_getElem h3))).1⟩
section
variable {X : Type} {S : Rep X} {x : X} {W w w' w0 : World} {gr gh : Nat} {t t' : List UInt8} {h : House} {F0 : Nat -> Prop}
abbrev RS {X : Type} (S : Rep X) (w0 : World) (F0 : Nat -> Prop) (gr : Nat) : Rep ((X × Unit) × Array Value) := (S.and (repStill w0 F0)).and (repBlock gr 48)
theorem ref_still (H : Has (RR S gr gh) W w (x, (t, h))) : ∃ F0, (repHouse gh).on w F0 h /\ Has (RS S w F0 gr) W w ((x, ()), refCells t gh) := by
 obtain ⟨⟨K, ⟨F, G, hF, hG, hd, hK⟩, hW⟩, hx⟩ := H;obtain ⟨F0, G1, h0, h1, hd1, hG1⟩ := (show ((repHouse gh).and (repBlock gr 48)).on w G (h, refCells t gh) from hG)
 refine ⟨F0, h0, ⟨⟨K, ⟨fun k => F k \/ F0 k, G1, ⟨F, F0, hF, ⟨fun _ => Iff.rfl, fun k hk => ⟨Rep.lt _ h0 k hk, rfl⟩⟩, fun k hk hk0 => hd k hk ((hG1 k).2 (.inl hk0)), fun _ => Iff.rfl⟩, h1, ?_, fun k => ?_⟩, hW⟩, hx⟩⟩
 ·rintro k (hk | hk) hg
  ·exact hd k hk ((hG1 k).2 (.inr hg))
  ·exact hd1 k hk hg
 ·rw [hK k];have := hG1 k;grind
theorem ref_unstill (h0 : (repHouse gh).on w0 F0 h) (H : Has (RS S w0 F0 gr) W w ((x, ()), refCells t gh)) : Has (RR S gr gh) W w (x, (t, h)) := by
 obtain ⟨⟨K, ⟨F, G1, ⟨F1, F2, hF, hs, hd, hF12⟩, h1, hd1, hK⟩, hW⟩, hx⟩ := H;have e : F2 = F0 := funext fun k => propext (hs.1 k);subst e;refine ⟨⟨K, ⟨F1, fun k => F2 k \/ G1 k, hF, ⟨F2, G1, Rep.keep _ h0 fun k hk => (hs.2 k hk).2, h1, fun k hk hg => hd1 k ((hF12 k).2 (.inr hk)) hg, fun _ => Iff.rfl⟩, ?_, fun k => ?_⟩, hW⟩, hx⟩
 ·rintro k hk (hg | hg)
  ·exact hd k hk hg
  ·exact hd1 k ((hF12 k).2 (.inl hk)) hg
 ·rw [hK k];have := hF12 k;grind
theorem ref_as (H : Has (RS S w0 F0 gr) W w ((x, ()), refCells t gh)) : ∀ k, F0 k -> k < w.heap.size /\ w.heap[k]? = w0.heap[k]? := by
 obtain ⟨F, hF⟩ := H.left.right_on;exact hF.2
def ReadsIn {α : Type} [Lies α] (w : World) (F : Nat -> Prop) (A : Option Addr) (l : List α) : Prop :=
 ∀ k x, l[k]? = some x -> ∃ ad, A = some ad /\ F ad.block /\ At w (ad.add (k * Lies.size α)) x
theorem ReadsIn.later {α : Type} [Lies α] {A : Option Addr} {l : List α} (h : ReadsIn w0 F0 A l) (hs : ∀ k, F0 k -> k < w.heap.size /\ w.heap[k]? = w0.heap[k]?) : Reads w w.heap.size A l := fun k x hk => by
 obtain ⟨ad, rfl, hf, hat⟩ := h k x hk;have : (ad.add (k * Lies.size α)).block = ad.block := by unfold Addr.add; split <;> rfl
 exact ⟨ad, rfl, (hs _ hf).1, hat.of_same (by rw [this]; exact (hs _ hf).2)⟩
theorem owns_in {α : Type} [Lies α] {e : TypeId} {v : Value} {l : List α} (h : Owns w e v l) (hf : ∀ k, v.ownBlock = some k -> F0 k) : ∃ A c, v = .slice A l.length c /\ ReadsIn w F0 A l /\ l.length <= c := by
 have hr := h;obtain ⟨A, c, rfl, hc, _⟩ := h.form;refine ⟨A, c, rfl, fun k x hk => ?_, hc⟩;obtain ⟨ad, rfl, _, hat⟩ := hr.reads k x hk;exact ⟨ad, rfl, hf _ (by simp [Value.ownBlock]), hat⟩
abbrev RB {X : Type} (S : Rep X) (gr : Nat) : Rep (X × Array Value) := S.and (repBlock gr 48)
theorem rb_blk (H : Has (RB S gr) W w (x, refCells t gh)) : w.heap[gr]? = some (.cells (refCells t gh) 48 (0, 0)) := by
 obtain ⟨F, hF⟩ := H.right_on;exact hF.2
theorem rb_tell (H : Has (RB S gr) W w (x, refCells t gh)) (t' : List UInt8) : Has (RB S gr) W (w.setCell ⟨gr, 0, none⟩ (.string (mkStr t'))) (x, refCells t' gh) := by
 have hb1 := setCell_heap (rb_blk H) 0 (.string (mkStr t'));obtain ⟨G, hG, hm2⟩ := H.snd;exact hm2 (refCells t' gh) _ ⟨G, ⟨hG.1, hb1⟩, (Touch.refl G w).setCell (.inl ((hG.1 gr).2 rfl)) _, Fresh.refl _ _⟩
def BTells {X : Type} (S : Rep X) (x : X) (W : World) (gr gh : Nat) (t : List UInt8) (r : Value) (e : Ending) (w' : World) : Prop := e = .returned r /\ Has (RB S gr) W w' (x, refCells t gh)
theorem rb_say (H : Has (RB S gr) W w (x, refCells t gh)) (s : ByteArray) (hs : s.size <= 100000000) (ht : t.length <= 1000000000) :
 Calls Tryz.prog 36 #[.pointer (some ⟨gr, 0, none⟩), .string s] w (BTells S x W gr gh (t ++ s.toList ++ [10]) (.tuple #[])) := by
 have hb := rb_blk H;have hc0 : w.cell? ⟨gr, 0, none⟩ = some (.string (mkStr t)) := (cell_of hb 0).trans rfl;have hf0 := frozen_of hb 0;have hz : (mkStr t).size = t.length := mkStr_size t;have hE : mkStr t ++ (s ++ (⟨#[10]⟩ : ByteArray)) = mkStr (t ++ s.toList ++ [10]) := toList_inj (by rw [toList_cat, toList_cat, mkStr_toList, mkStr_toList, List.append_assoc, show (⟨#[10]⟩ : ByteArray).toList = [10] from mkStr_toList [10]]);have H1 := lh (rb_tell H (t ++ s.toList ++ [10]));rw [<- hE] at H1;have h10 : (⟨#[10]⟩ : ByteArray).size = 1 := rfl;clear H hb hE;go_enter Tryz.func36, Tryz.ntmps36
 go_wp2
 all_goals first | omega | skip
 go_end0
 exact ⟨rfl, H1.out⟩
end
def RefRecsRel {X : Type} (S : Rep X) (x : X) (W : World) (gr gh : Nat) (t : List UInt8) (L : List Record) (i : Value) (w : World) : Prop :=
 ∃ k : Nat, i = .int .i64 k /\ k <= L.length /\ Has (RB S gr) W w (x, refCells (t ++ (L.take k).flatMap recTxt) gh)
section
variable {X : Type} {S : Rep X} {x : X} {W w : World} {gr gh : Nat} {t : List UInt8}
theorem ref_records (H : Has (RB S gr) W w (x, refCells t gh)) (hL : LaidD W) (A : Option Addr) (c : Nat) (L : List Record)
 (hS : ∀ w' F, S.on w' F x -> Reads w' w'.heap.size A L)
 (htl : ∀ r ∈ L, TellOk r.client r.no r.call /\ ShortAns r.answer /\ StrCall r.call) (hbl : L.length <= 300) (ht : t.length <= 100000000) :
 Calls Tryz.prog 44 #[.pointer (some ⟨gr, 0, none⟩), .slice A L.length c] w (BTells S x W gr gh (t ++ (L.flatMap recTxt ++ say [wEnd])) (.tuple #[])) := by
 have HL := lh hL;have H1 := lh H;have HSR := lh hS;have HTL := lh htl;have HPL := lh (show ∀ r ∈ L, (recTxt r).length <= 250 from fun r hr => recTxt_len (HTL.out r hr).1 (HTL.out r hr).2.1);have HFL := lh (fun k => cat_take_len recTxt HPL.out hbl k);clear H hL hS htl;go_enter Tryz.func44, Tryz.ntmps44
 go_wp2_with fail
 go_loopw [4] (fun i wr => RefRecsRel S x W gr gh t L i wr) (fun i _ => L.length - (intOf i).toNat)
 case atStart => exact ⟨0, rfl, Nat.zero_le _, by simpa using H1.out⟩
 case round =>
  clear H1;obtain ⟨k, rfl, hk, hz⟩ := hrel;have HZ := lh hz;have hlen := HFL.out k;clear hz;by_cases hlt : k < L.length
  ·obtain ⟨r, hp⟩ : ∃ r, L[k]? = some r := ⟨L[k], by simp [hlt]⟩
   obtain ⟨F1, hF1, _⟩ := HZ.out.fst;obtain ⟨ad, rfl, hseen⟩ := rec_reads (HSR.out _ _ hF1) hp;have HSE := lh hseen;obtain ⟨htk, hsa, hsc⟩ := HTL.out r (List.mem_of_getElem? hp);have HTK := lh htk;have HSA := lh hsa;have HSC := lh hsc;have HFT := lh (cat_take recTxt hp);have HP := lh hp;clear hp htk hsa hsc hseen hF1;go_wp2_with fail
   refine wp_region_held_drew (S := fun w' => RecSeen w' (ad.add (k * 8)) r) (by kernel_rfl) (HSE.out _ (Touch.drew (Touch.refl _ wr))) (fun hHeld => ?_);refine tK 0 ?_;try simp only [pS]
   refine tK 1 ?_;try simp only [pS]
   refine tK 2 ?_;try simp only [pS]
   refine tK 3 ?_;try simp only [pS]
   refine tK 4 ?_;try simp only [pS]
   refine tK 5 ?_ (hY := fun w' hw' => by
    have hc := hw'.client;go_simp;try with_reducible rfl)
   try simp only [pS]
   refine tK 6 ?_;try simp only [pS]
   refine tK 7 ?_;try simp only [pS]
   refine tK 8 ?_;try simp only [pS]
   refine tK 9 ?_;try simp only [pS]
   refine tK 10 ?_ (hY := fun w' hw' => by
    have hc := hw'.no;go_simp;try with_reducible rfl)
   try simp only [pS]
   refine tK 11 ?_;try simp only [pS]
   refine tK 12 ?_;try simp only [pS]
   refine tK 13 ?_;try simp only [pS]
   refine tK 14 ?_;try simp only [pS]
   refine tK 15 ?_ (hY := fun w' hw' => by
    have hc := hw'.call;go_simp;try with_reducible rfl)
   try simp only [pS]
   refine tK 16 ?_;try simp only [pS]
   refine tK 17 ?_;try simp only [pS]
   refine tK 18 ?_;try simp only [pS]
   refine tK 19 ?_;try simp only [pS]
   refine tK 20 ?_ (hY := fun w' hw' => by
    have hc := hw'.answer;go_simp;try with_reducible rfl)
   try simp only [pS]
   refine tC 21 fun K hK => ?_;go_simp;go_at_call 42
   have X1 := lh (show Ext wr wr.drew from Touch.drew (Touch.refl _ wr));have H1 := lh (HZ.out.step X1.out);refine (ref_recordText wr.drew r.client r.no r.call r.answer (HL.out.ext H1.out.ext) HTK.out HSA.out HSC.out).mono ?_;rintro e w2 ⟨rfl, hx2⟩;have H2 := lh (H1.out.step hx2);refine hK.out _ _ (HSE.out _ (X1.out.trans hx2)) (fun hHeld => ?_);clear hx2 H1 X1 HZ;clear hK K;try simp only [pS]
   refine tC 22 fun K hK => ?_;go_simp;go_at_call 36
   have hz1 := recTxt_len HTK.out HSA.out;refine (rb_say H2.out (mkStr (recLine r.client r.no r.call r.answer)) (by rw [mkStr_size]; have e := congrArg List.length (recLine_say r.client r.no r.call r.answer); rw [List.length_append] at e; unfold recTxt at hz1; omega) (by simp only [List.length_append]; omega)).mono ?_;rintro e w3 ⟨rfl, H3⟩;rw [List.append_assoc, mkStr_toList, recLine_say, List.append_assoc, show say (recWords r.client r.no r.call r.answer) = recTxt r from rfl, <- HFT.out] at H3;have H4 := lh H3;obtain ⟨F3, hF3, _⟩ := H3.fst;obtain ⟨ad', e', hs'⟩ := rec_reads (HSR.out _ _ hF3) HP.out;cases e';refine hK.out _ _ (hs' _ (Touch.refl _ w3)) (fun hHeld => ?_);clear H3 H2 hF3 hs' hz1;clear hK K;try simp only [pS]
   refine tD ?_;go_wp2
   go_roundw
   case rel => exact ⟨k + 1, by go_num, by omega, H4.out⟩
   case measure => simp [intOf]; omega
  ·obtain rfl : k = L.length := by omega
   have HE := lh (show t ++ (L.take L.length).flatMap recTxt ++ say [wEnd] = t ++ (L.flatMap recTxt ++ say [wEnd]) by rw [List.take_length, List.append_assoc]);go_wp2_with fail
   refine (rb_say HZ.out ⟨#[101, 110, 100]⟩ (by decide) (by simp only [List.length_append]; omega)).mono ?_;rintro e w2 ⟨rfl, H2⟩;rw [List.append_assoc, show (⟨#[101, 110, 100]⟩ : ByteArray).toList ++ [10] = say [wEnd] by rw [lit_toList]; simp [say, joinL, wEnd], HE.out] at H2;go_wp2
   go_end0
   exact ⟨rfl, H2⟩
end
structure HouseIn (w : World) (F : Nat -> Prop) (gh : Nat) (h : House) : Prop where
 own : F gh
 g0 : ∃ A c, w.cell? ⟨gh, 7, none⟩ = some (.bool (h.G 0).isOpen) /\ w.cell? ⟨gh, 8, none⟩ = some (.slice A (h.G 0).done.length c) /\ ReadsIn w F A (h.G 0).done
 g1 : ∃ A c, w.cell? ⟨gh, 15, none⟩ = some (.bool (h.G 1).isOpen) /\ w.cell? ⟨gh, 16, none⟩ = some (.slice A (h.G 1).done.length c) /\ ReadsIn w F A (h.G 1).done
 g2 : ∃ A c, w.cell? ⟨gh, 23, none⟩ = some (.bool (h.G 2).isOpen) /\ w.cell? ⟨gh, 24, none⟩ = some (.slice A (h.G 2).done.length c) /\ ReadsIn w F A (h.G 2).done
 chest : ∃ A c, w.cell? ⟨gh, 0, none⟩ = some (.slice A h.S.length c) /\ ReadsIn w F A h.S /\ h.S.length <= c
 bag : ∃ A c, w.cell? ⟨gh, 25, none⟩ = some (.slice A h.bag.length c) /\ ReadsIn w F A h.bag
theorem house_in {w : World} {gh : Nat} {F : Nat -> Prop} {h : House} (hh : (repHouse gh).on w F h) : HouseIn w F gh h := by
 obtain ⟨vs, v0, v1, v2, vb, F4, Fb, ⟨F3, F2', ⟨F2, F1', ⟨F1, F0', ⟨F0, Fs, h0, os, _, e0⟩, o0, _, e1⟩, o1, _, e2⟩, o2, _, e3⟩, ob, _, e4⟩ := hh;have hb := (show w.heap[gh]? = some (.cells (hCells vs v0 v1 v2 vb h.G) 73 (0, 0)) from h0.2)
 have hg : F gh := (e4 _).2 (.inl ((e3 _).2 (.inl ((e2 _).2 (.inl ((e1 _).2 (.inl ((e0 _).2 (.inl ((h0.1 _).2 rfl))))))))));obtain ⟨As, cs, rfl, rs, ls⟩ := owns_in (F0 := F) (show Owns w 112 vs h.S from os.2) fun k hk => (e4 _).2 (.inl ((e3 _).2 (.inl ((e2 _).2 (.inl ((e1 _).2 (.inl ((e0 _).2 (.inr ((os.1 k).2 hk))))))))));obtain ⟨A0, c0, rfl, r0, _⟩ := owns_in (F0 := F) (show Owns w 112 v0 (h.G 0).done from o0.2) fun k hk => (e4 _).2 (.inl ((e3 _).2 (.inl ((e2 _).2 (.inl ((e1 _).2 (.inr ((o0.1 k).2 hk))))))));obtain ⟨A1, c1, rfl, r1, _⟩ := owns_in (F0 := F) (show Owns w 112 v1 (h.G 1).done from o1.2) fun k hk => (e4 _).2 (.inl ((e3 _).2 (.inl ((e2 _).2 (.inr ((o1.1 k).2 hk))))));obtain ⟨A2, c2, rfl, r2, _⟩ := owns_in (F0 := F) (show Owns w 112 v2 (h.G 2).done from o2.2) fun k hk => (e4 _).2 (.inl ((e3 _).2 (.inr ((o2.1 k).2 hk))));obtain ⟨Ab, cb, rfl, rb, _⟩ := owns_in (F0 := F) (show Owns w 103 vb h.bag from ob.2) fun k hk => (e4 _).2 (.inr ((ob.1 k).2 hk));have hc := fun j => cell_of hb j
 exact ⟨hg, ⟨A0, c0, (hc 7).trans (by simp [hCells, Guest.cells]), (hc 8).trans (by simp [hCells, Guest.cells]), r0⟩,
  ⟨A1, c1, (hc 15).trans (by simp [hCells, Guest.cells]), (hc 16).trans (by simp [hCells, Guest.cells]), r1⟩,
  ⟨A2, c2, (hc 23).trans (by simp [hCells, Guest.cells]), (hc 24).trans (by simp [hCells, Guest.cells]), r2⟩,
  ⟨As, cs, (hc 0).trans (by simp [hCells, Guest.cells]), rs, ls⟩,
  ⟨Ab, cb, (hc 25).trans (by simp [hCells, Guest.cells]), rb⟩⟩
theorem hasNl_in (s : List UInt8) : hasNl s = s.contains 10 := by
 unfold hasNl Lib.contains;rw [Lib.index_one, Lib.contains_iff_indexByte]
theorem nl_yes {s : ByteArray} {j : Nat} (h : j < s.size) (hb : s[j] = 10) : hasNl s.toList = true := by
 rw [hasNl_in, List.contains_iff_mem];have := List.mem_of_getElem? (getElem_toList h);rwa [hb] at this
theorem nl_no {s : ByteArray} (h : (10 : UInt8) ∉ s.toList.take s.size) : hasNl s.toList = false := by
 rw [List.take_of_length_le (by rw [size_toList]; omega)] at h;rw [hasNl_in, Bool.eq_false_iff];exact fun e => h (List.contains_iff_mem.1 e)
theorem nl_next {s : ByteArray} {k : Nat} (hk : k < s.size) (hn : (10 : UInt8) ∉ s.toList.take k) (hb : s[k] ≠ 10) : (10 : UInt8) ∉ s.toList.take (k + 1) := fun hm => by
 rw [List.take_add_one, getElem_toList hk] at hm;rcases List.mem_append.1 hm with hm | hm
 ·exact hn hm
 ·have : 10 = s[k] := by simpa using hm
  exact hb this.symm
theorem u8_10 {b : UInt8} : ((b.toNat : Int) = 10) ↔ b = 10 := by
 constructor
 ·intro h;exact UInt8.toNat_inj.1 (by show b.toNat = 10; omega)
 ·intro h;subst h;rfl
abbrev NN : Rep Unit := repNone
theorem fault_new (w : World) : Has ((NN.and (BF w.heap.size)).and NN) w (w.alloc (.cells (FaultD.mk 0 0).cells 31)) (((), (FaultD.mk 0 0).cells), ()) :=
 ((Has.none w).box (FaultD.mk 0 0).cells 31).both (Has.none _)
theorem ref_F (w : World) (c a : Int) : Calls Tryz.prog 17 #[.int .i64 c, .int .i64 a] w fun e w' => e = .returned (.agg #[.int .i64 c, .int .i64 a]) /\ Ext w w' := by
 have H1 := lh (fault_new w);go_enter Tryz.func17, Tryz.ntmps17
 go_upto_region 1 with fail
 change Code.wp Tryz.prog _ _ _ (w.alloc (.cells (FaultD.mk 0 0).cells 31));generalize w.alloc (.cells (FaultD.mk 0 0).cells 31) = w1 at H1 ⊢;generalize w.heap.size = b at H1 ⊢;have hsh := row_shut H1.out (FaultD.mk c a);have HSH := lh hsh;obtain ⟨v0, hc0⟩ := hsh.c0;obtain ⟨v1, hc1⟩ := hsh.c1;have hf0 := hsh.f0;have hf1 := hsh.f1;clear hsh;go_wp2
 refine bodyPost_ret (results_cell rfl _ _ ⟨b, 0, none⟩ (.agg (FaultD.mk c a).cells) rfl (load_block isFault HSH.out.row)) rfl ?_;exact ⟨rfl, HSH.out.has.ext⟩
def LfRel (b : Nat) (w : World) (L : List (List UInt8)) (i : Value) (wr : World) : Prop :=
 ∃ k : Nat, i = .int .i64 k /\ k <= L.length /\ (∀ j s, j < k -> L[j]? = some s -> hasNl s = false) /\ Has ((NN.and (BF b)).and NN) w wr (((), (FaultD.mk 0 0).cells), ())
def LkRel (w1 : World) (s : ByteArray) (i : Value) (wr : World) : Prop := ∃ j : Nat, i = .int .i64 j /\ j <= s.size /\ (10 : UInt8) ∉ s.toList.take j /\ w1 = wr
def LFaultPost (w : World) (L : List (List UInt8)) (e : Ending) (w' : World) : Prop := e = .returned (.agg (lFault L).cells) /\ Ext w w'
theorem ref_linesFault (w : World) (A : Option Addr) (n c : Nat) (l : List ByteArray) (hr : Reads w w.heap.size A l) (hn : n = l.length) (hs : ∀ s ∈ l, s.size <= 10000) (hl : l.length <= 1000) :
 Calls Tryz.prog 9 #[.slice A n c] w (LFaultPost w (l.map (·.toList))) := by
 subst hn;have HR := lh hr;have HS := lh hs;have H1 := lh (fault_new w);clear hr hs;go_enter Tryz.func9, Tryz.ntmps9
 go_upto_region 1 with fail
 change Code.wp Tryz.prog _ _ _ (w.alloc (.cells (FaultD.mk 0 0).cells 31));generalize w.alloc (.cells (FaultD.mk 0 0).cells 31) = w1 at H1 ⊢;generalize w.heap.size = b at H1 ⊢;generalize hLL : l.map (·.toList) = L at *;have HLL := lh hLL;have hlen : L.length = l.length := by rw [<- hLL, List.length_map]
 clear hLL;by_cases hbig : 150 < L.length
 ·have HD := lh (show lFault L = ⟨13, -1⟩ by unfold lFault; rw [if_pos hbig]);have hgt : (150 : Int) < (l.length : Int) := by omega
  clear hbig hlen;go_wp2_with fail
  refine (ref_F w1 13 (-1)).mono ?_;rintro e w2 ⟨rfl, hx2⟩;have H2 := lh (H1.out.step hx2);clear hx2 H1;have hsh := row_shut H2.out (FaultD.mk 13 (-1));have HSH := lh hsh;obtain ⟨v0, hc0⟩ := hsh.c0;obtain ⟨v1, hc1⟩ := hsh.c1;have hf0 := hsh.f0;have hf1 := hsh.f1;clear hsh;go_wp2
  refine bodyPost_ret (results_cell rfl _ _ ⟨b, 0, none⟩ (.agg (FaultD.mk 13 (-1)).cells) rfl (load_block isFault HSH.out.row)) rfl ?_;unfold LFaultPost;rw [HLL.out, HD.out];exact ⟨rfl, HSH.out.has.ext⟩
 ·have hngt : ¬ (150 : Int) < (l.length : Int) := by omega
  go_wp2_with fail
  go_loopw [3] (fun i wr => LfRel b w L i wr) (fun i _ => L.length - (intOf i).toNat)
  case atStart => exact ⟨0, rfl, Nat.zero_le _, fun j s hj => by omega, H1.out⟩
  case round =>
   clear H1;obtain ⟨k, rfl, hk, hno, hz⟩ := hrel;have HNO := lh hno;have HZ := lh hz;clear hno hz;by_cases hlt : k < L.length
   ·obtain ⟨s, hsx⟩ : ∃ s, l[k]? = some s := ⟨l[k], by simp [<- hlen, hlt]⟩
    obtain ⟨ad, rfl, hct'⟩ := cell_text HR.out hsx;have hct := hct' wr HZ.out.ext;have HLK := lh (show L[k]? = some s.toList by rw [<- HLL.out, List.getElem?_map, hsx]; rfl);have hsz := HS.out s (List.mem_of_getElem? hsx);have hlt' : (k : Int) < (l.length : Int) := by omega
    clear hsx hct';go_wp2_with fail
    go_loopw [4] (fun i wz => LkRel wr s i wz) (fun i _ => s.size - (intOf i).toNat)
    case atStart => exact ⟨0, rfl, Nat.zero_le _, by simp, rfl⟩
    case round =>
     obtain ⟨j, rfl, hj, hnj, rfl⟩ := hrel;have HNJ := lh hnj;clear hnj;by_cases hjl : j < s.size
     ·by_cases hb : s[j] = 10
      ·have HD := lh (show lFault L = ⟨14, k⟩ from lFault_at hbig HNO.out HLK.out (nl_yes hjl hb));have hb' : ((s[j].toNat : Int) == 10) = true := by rw [beq_iff_eq]; exact u8_10.2 hb
       clear hb;go_wp2_with fail
       refine (ref_F wr 14 k).mono ?_;rintro e w2 ⟨rfl, hx2⟩;have H2 := lh (HZ.out.step hx2);clear hx2 HZ hct;have hsh := row_shut H2.out (FaultD.mk 14 k);have HSH := lh hsh;obtain ⟨v0, hc0⟩ := hsh.c0;obtain ⟨v1, hc1⟩ := hsh.c1;have hf0 := hsh.f0;have hf1 := hsh.f1;clear hsh;go_wp2
       refine bodyPost_ret (results_cell rfl _ _ ⟨b, 0, none⟩ (.agg (FaultD.mk 14 k).cells) rfl (load_block isFault HSH.out.row)) rfl ?_;unfold LFaultPost;rw [HLL.out, HD.out];exact ⟨rfl, HSH.out.has.ext⟩
      ·have HB := lh hb;have hb' : ((s[j].toNat : Int) == 10) = false := by rw [beq_eq_false_iff_ne]; exact fun e => hb (u8_10.1 e)
       clear hb;go_wp2
       go_roundw
       case rel => exact ⟨j + 1, by go_num, by omega, nl_next hjl HNJ.out HB.out, by trivial⟩
       case measure => simp [intOf]; omega
     ·obtain rfl : j = s.size := by omega
      have HNL := lh (nl_no HNJ.out);go_wp2
      go_roundw
      case rel =>
       refine ⟨k + 1, by go_num, by omega, fun j u hj hu => ?_, HZ.out⟩;by_cases e : j = k
       ·subst e;rw [HLK.out] at hu;injection hu with hu;subst hu;exact HNL.out
       ·exact HNO.out j u (by omega) hu
      case measure => simp [intOf]; omega
   ·obtain rfl : k = L.length := by omega
    have HD := lh (show lFault L = ⟨0, 0⟩ from lFault_none hbig HNO.out);have hl' : ¬ ((L.length : Int) < (l.length : Int)) := by omega
    clear HNO;have hsh := row_shut HZ.out (FaultD.mk 0 0);have HSH := lh hsh;obtain ⟨v0, hc0⟩ := hsh.c0;obtain ⟨v1, hc1⟩ := hsh.c1;have hf0 := hsh.f0;have hf1 := hsh.f1;clear hsh;go_wp2
    refine bodyPost_ret (results_cell rfl _ _ ⟨b, 0, none⟩ (.agg (FaultD.mk 0 0).cells) rfl (load_block isFault HSH.out.row)) rfl ?_;unfold LFaultPost;rw [HLL.out, HD.out];exact ⟨rfl, HSH.out.has.ext⟩
def RNewDesk (W : World) (e : Ending) (w' : World) : Prop := ∃ gr gh, e = .returned (.pointer (some ⟨gr, 0, none⟩)) /\ Has (repRef gr gh) W w' ([], hNew)
theorem ref_newDesk (W : World) : Calls Tryz.prog 7 #[] W (RNewDesk W) := by
 go_enter Tryz.func7, Tryz.ntmps7
 go_wp2_with fail
 refine (house_new W).mono ?_;rintro e w1 ⟨gh, rfl, hn⟩;have H1 := lh (hn.box (refCells [] gh) 48);clear hn;go_wp2
 go_ret
 exact ⟨_, gh, rfl, H1.out.map fun F hF => hF⟩
def isB (w0 : List UInt8) (m : List Int) (wd : List UInt8) (k : Int) : Bool := (w0 == wd) && ((m.length : Int) == k)
abbrev HLs (gl : Nat) : Rep (List ByteArray) := repHolds gl 22 9
abbrev HNs (gn : Nat) : Rep (List Int) := repHolds gn 76 3
abbrev EV {X : Type} (S : Rep X) (gl gn : Nat) : Rep ((X × List ByteArray) × List Int) := (S.and (HLs gl)).and (HNs gn)
theorem ref_is (w : World) (gl gn : Nat) (vl vn : Value) (W0 : List UInt8) (Ws : List ByteArray) (m : List Int) (hl : Holds w gl 22 9 vl (mkStr W0 :: Ws)) (hn : Holds w gn 76 3 vn m) (wd : List UInt8) (k : Int) :
 Calls Tryz.prog 40 #[.string ⟨wd.toArray⟩, .int .i64 k, .pointer (some ⟨gl, 0, none⟩), .pointer (some ⟨gn, 0, none⟩)] w fun e w' => e = .returned (.bool (isB W0 m wd k)) /\ w = w' := by
 obtain ⟨Al, cl, rfl, _⟩ := hl.own.form;obtain ⟨An, cn, rfl, _⟩ := hn.own.form;have hcn : w.cell? ⟨gn, 0, none⟩ = some (.slice An m.length cn) := cell_of hn.cell 0;have hcl : w.cell? ⟨gl, 0, none⟩ = some (.slice Al (mkStr W0 :: Ws).length cl) := cell_of hl.cell 0;obtain ⟨g, rfl, h0'⟩ := own_text hl.own (k := 0) (x := mkStr W0) rfl;have h0 := h0' w (Touch.refl _ _);clear h0' hl hn;cases hq : (W0 == wd) with
 | true =>
   have hq' : ((mkStr W0).toList == wd) = true := by rw [mkStr_toList]; exact hq
   have HQ := lh hq;clear hq;go_enter Tryz.func40, Tryz.ntmps40
   go_wp2
   go_ret
   exact ⟨by unfold isB; rw [HQ.out]; rfl, rfl⟩
 | false =>
   have hq' : ((mkStr W0).toList == wd) = false := by rw [mkStr_toList]; exact hq
   have HQ := lh hq;clear hq;go_enter Tryz.func40, Tryz.ntmps40
   go_wp2
   go_ret
   exact ⟨by unfold isB; rw [HQ.out]; rfl, rfl⟩
section
variable {X : Type} {S : Rep X} {x : X} {W w : World} {gr gh gl gn : Nat} {t : List UInt8} {h : House}
theorem env_is {Y : Type} {R : Rep Y} {z : Y} {W0 : List UInt8} {Ws : List ByteArray} {m : List Int} (H : Has ((EV S gl gn).and R) W w (((x, mkStr W0 :: Ws), m), z)) (wd : List UInt8) (k : Int) :
 Calls Tryz.prog 40 #[.string ⟨wd.toArray⟩, .int .i64 k, .pointer (some ⟨gl, 0, none⟩), .pointer (some ⟨gn, 0, none⟩)] w fun e w' => e = .returned (.bool (isB W0 m wd k)) /\ w = w' := by
 obtain ⟨_, ⟨vl, _, hl⟩, _⟩ := H.left.left.right.ex;obtain ⟨_, ⟨vn, _, hn⟩, _⟩ := H.left.right.ex;exact ref_is w gl gn vl vn W0 Ws m hl hn wd k
theorem what_line : (⟨#[119, 104, 97, 116]⟩ : ByteArray).toList ++ [10] = say [wWhat] := by rw [lit_toList]; simp [say, joinL, wWhat]
theorem ref_line_ask (H : Has (RR S gr gh) W w (x, (t, h))) (hL : LaidD W) (hok : DeskOk h) (s : ByteArray) (hs : s.size <= 10000) (ht : t.length <= 100000000) (ha : isAsk s.toList = true) :
 Calls Tryz.prog 18 #[.pointer (some ⟨gr, 0, none⟩), .string s] w (RTells S x W gr gh (t ++ (dLine h s.toList).1, (dLine h s.toList).2) (.tuple #[])) := by
 have HL := lh hL;have HOK := lh hok;have H0 := lh H;have HD := lh (show dLine h s.toList = dCall h (wordOf (wordOf s.toList).2.1).1 (wordOf (wordOf s.toList).2.1).2.1 by unfold dLine; rw [if_pos ha])
 have hsz : (wordOf (wordOf s.toList).2.1).2.1.length <= 10000 /\ (wordOf (wordOf s.toList).2.1).1.length <= 10000 := by
  have h1 := wordOf_le s.toList;have h2 := wordOf_le (wordOf s.toList).2.1;rw [length_toList'] at h1;omega
 have hsz2 : (mkStr (wordOf s.toList).2.1).size <= 100000 := by
  have h1 := wordOf_le s.toList;rw [length_toList'] at h1;rw [mkStr_size];omega
 have q0 : ((mkStr wCall).toList == [99, 97, 108, 108]) = true := eq_yes wCall;unfold isAsk at ha;simp only [Bool.and_eq_true, decide_eq_true_eq] at ha;obtain ⟨⟨ha1, ha2⟩, ha3⟩ := ha;clear H hL hok;go_enter Tryz.func18, Tryz.ntmps18
 go_wp2_with fail
 refine (ref_word w s (by omega)).mono ?_;unfold WordPost;rw [ha1, ha3];generalize (wordOf s.toList).2.1 = rest at *;clear ha1 ha3;rintro e w1 ⟨rfl, hx1⟩;have H1 := lh (H0.out.step hx1);clear hx1 H0;go_wp2_with fail
 refine (ref_word w1 (mkStr rest) hsz2).mono ?_;unfold WordPost;rw [mkStr_toList, ha2];generalize (wordOf rest).1 = who at *;generalize (wordOf rest).2.1 = cl at *;clear ha2 hsz2 q0;rintro e w2 ⟨rfl, hx2⟩;have H2 := lh (H1.out.step hx2);clear hx2 H1;go_wp2_with fail
 refine (atoi_any w2 (mkStr who) (by rw [mkStr_size]; omega) (HL.out.ext H2.out.ext)).mono ?_;unfold AtoiPost;rw [mkStr_toList];rintro e w3 (⟨n, hn, rfl, hx3⟩ | ⟨hno, mm, N, rfl, hx3⟩)
 ·have H3 := lh (H2.out.step hx3);have hb := Lib.atoiAll_bounds hn;have hnf := numOf_ok hn;clear hx3 hn H2;go_wp2_with fail
  refine (ref_num w3 n ⟨hb.1, hb.2⟩ (HL.out.ext H3.out.ext).laid).mono ?_;rintro e w4 ⟨rfl, hx4⟩;have H4 := lh (H3.out.step hx4);clear hx4 H3;by_cases hq : Lib.itoa n = who
  ·rw [if_pos hq] at hnf;have HDC := lh (show dCall h who cl = if (callOf cl).2 ≠ 0 then (dCode (callOf cl).2, h) else dStep h ⟨1, n, 0, (callOf cl).1⟩ by unfold dCall; rw [hnf]);have hne : ((mkStr (Lib.itoa n)).toList == (mkStr who).toList) = true := by rw [mkStr_toList, mkStr_toList, hq]; simp
   clear hnf hq;go_wp2_with fail
   refine (ref_callOf w4 (mkStr cl) (by rw [mkStr_size]; omega)).mono ?_;unfold ParsePost;rw [mkStr_toList];rintro e w5 ⟨rfl, hx5⟩;have H5 := lh ((H4.out.step hx5).box (callOf cl).1.cells 66).exch';clear hx5 H4;have hci := callOf_in cl;have HCS := lh (show (callOf cl).2 = 0 -> StrCall (callOf cl).1 from fun e => code_str (callOf_zero e).1);generalize (callOf cl).1 = c at *;generalize (callOf cl).2 = e0 at *;go_upto_region 8 with fail
   generalize w5.alloc (.cells c.cells 66) = w6 at H5 ⊢;generalize w5.heap.size = b at H5 ⊢;by_cases he : e0 = 0
   ·subst he;have HDD := lh (show dCall h who cl = dStep h ⟨1, n, 0, c⟩ by rw [HDC.out, if_neg (by decide)]);have HSC := lh (HCS.out rfl);have hb6 := H5.out.left.blk;go_wp2_with fail
    refine (ref_step H5.out HL.out HOK.out ⟨1, n, 0, c⟩ ⟨HSC.out, ⟨(by decide : (-9223372036854775808 : Int) <= 0), (by decide : (0 : Int) <= 9223372036854775807)⟩⟩ ht).mono ?_;rintro e w7 ⟨rfl, H7⟩;have HR := lh H7.drop;clear H7;go_wp2
    go_end0
    exact ⟨rfl, by rw [HD.out, HDD.out]; exact HR.out⟩
   ·have HDD := lh (show dCall h who cl = (dCode e0, h) by rw [HDC.out, if_pos he]);have hn64 : Num64 e0 := ⟨by omega, by omega⟩
    have HNC := lh (no_code he);have hz1 : (mkStr (Lib.itoa e0)).size <= 21 := by rw [mkStr_size]; exact num_le hn64
    go_wp2_with fail
    refine (ref_num w6 e0 hn64 (HL.out.ext H5.out.ext).laid).mono ?_;rintro e w7 ⟨rfl, hx7⟩;have H7 := lh (H5.out.step hx7);clear hx7 H5;go_wp2_with fail
    refine (ref_say H7.out ((⟨#[110, 111, 32]⟩ : ByteArray) ++ mkStr (Lib.itoa e0)) (by rw [ByteArray.size_append]; have e : (⟨#[110, 111, 32]⟩ : ByteArray).size = 3 := rfl; omega) (by omega)).mono ?_;rintro e w8 ⟨rfl, H8⟩;rw [List.append_assoc, HNC.out] at H8;have HR := lh H8.drop;clear H8;go_wp2
    go_end0
    exact ⟨rfl, by rw [HD.out, HDD.out]; exact HR.out⟩
  ·rw [if_neg hq] at hnf;have HDC := lh (show dCall h who cl = (say [wWhat], h) by unfold dCall; rw [hnf]);have hne : ((mkStr (Lib.itoa n)).toList == (mkStr who).toList) = false := by rw [mkStr_toList, mkStr_toList]; simpa using hq
   clear hnf hq;go_wp2_with fail
   refine (ref_say H4.out ⟨#[119, 104, 97, 116]⟩ (by decide) (by omega)).mono ?_;rintro e w5 ⟨rfl, H5⟩;rw [List.append_assoc, what_line] at H5;have HR := lh H5;clear H5;go_wp2
   go_end0
   exact ⟨rfl, by rw [HD.out, HDC.out]; exact HR.out⟩
 ·have H3 := lh (H2.out.step hx3);have HDC := lh (show dCall h who cl = (say [wWhat], h) by unfold dCall; rw [numOf_no hno]);clear hx3 hno H2;go_wp2_with fail
  refine (ref_say H3.out ⟨#[119, 104, 97, 116]⟩ (by decide) (by omega)).mono ?_;rintro e w5 ⟨rfl, H5⟩;rw [List.append_assoc, what_line] at H5;have HR := lh H5;clear H5;go_wp2
  go_end0
  exact ⟨rfl, by rw [HD.out, HDC.out]; exact HR.out⟩
end
theorem isB_yes {w0 wd : List UInt8} {m : List Int} {k : Int} (h : isB w0 m wd k = true) : w0 = wd /\ (m.length : Int) = k := by
 unfold isB at h;rw [Bool.and_eq_true] at h;exact ⟨eq_of_beq h.1, eq_of_beq h.2⟩
theorem isB_no {w0 wd : List UInt8} {m : List Int} {k : Int} (h : isB w0 m wd k = false) : ¬ (w0 = wd /\ (m.length : Int) = k) := fun ⟨h1, h2⟩ => by
 unfold isB at h;rw [h1, h2] at h;simp at h
theorem one_of {m : List Int} (h : (m.length : Int) = 1) : ∃ a, m = [a] := List.length_eq_one_iff.1 (by omega)
theorem nil_of {m : List Int} (h : (m.length : Int) = 0) : m = [] := List.eq_nil_of_length_eq_zero (by omega)
theorem two_of {m : List Int} (h : (m.length : Int) = 2) : ∃ a b, m = [a, b] := by
 match m, h with
 | [a, b], _ => exact ⟨a, b, rfl⟩
theorem ask_none (h : House) {w : List UInt8} {m : List Int} (b1 : isB w m wSend 1 = false) (b2 : isB w m wDeliver 1 = false) (b3 : isB w m wLose 1 = false) (b4 : isB w m wDouble 1 = false) (b5 : isB w m wCrash 0 = false) (b6 : isB w m wTear 2 = false) (b7 : isB w m wCalm 0 = false) (b8 : isB w m wPackets 0 = false) (b9 : isB w m wDone 1 = false) (b10 : isB w m wLog 0 = false) (b11 : isB w m wThen 1 = false) : dAsk h w m = none := by
 have n1 := isB_no b1;have n2 := isB_no b2;have n3 := isB_no b3;have n4 := isB_no b4;have n5 := isB_no b5;have n6 := isB_no b6;have n7 := isB_no b7;have n8 := isB_no b8;have n9 := isB_no b9;have n10 := isB_no b10;have n11 := isB_no b11;unfold dAsk;rw [if_neg, if_neg (fun e => n5 ⟨e.1, by omega⟩), if_neg (fun e => n6 ⟨e.1, by omega⟩), if_neg (fun e => n7 ⟨e.1, by omega⟩), if_neg (fun e => n8 ⟨e.1, by omega⟩), if_neg (fun e => n9 ⟨e.1, by omega⟩), if_neg (fun e => n10 ⟨e.1, by omega⟩), if_neg (fun e => n11 ⟨e.1, by omega⟩)];rintro ⟨h0, h1⟩;have h1' : (m.length : Int) = 1 := by omega
 unfold oneKind at h0;split at h0
 ·exact n1 ⟨‹_›, h1'⟩
 split at h0
 ·exact n2 ⟨‹_›, h1'⟩
 split at h0
 ·exact n3 ⟨‹_›, h1'⟩
 split at h0
 ·exact n4 ⟨‹_›, h1'⟩
 ·omega
theorem dw_some {h : House} {w0 : List UInt8} {ws : List (List UInt8)} {m : List Int} (hn : numsOf ws = some m) {r : List UInt8 × House} (ha : dAsk h w0 m = some r) : dWords h (w0 :: ws) = r := by
 show (match numsOf ws with | none => (say [wWhat], h) | some n => (dAsk h w0 n).getD (say [wWhat], h)) = _;rw [hn];show (dAsk h w0 m).getD _ = _;rw [ha];rfl
theorem dw_what {h : House} {w0 : List UInt8} {ws : List (List UInt8)} {m : List Int} (hn : numsOf ws = some m) (ha : dAsk h w0 m = none) : dWords h (w0 :: ws) = (say [wWhat], h) := by
 show (match numsOf ws with | none => (say [wWhat], h) | some n => (dAsk h w0 n).getD (say [wWhat], h)) = _;rw [hn];show (dAsk h w0 m).getD _ = _;rw [ha];rfl
theorem dw_none {h : House} {w0 : List UInt8} {ws : List (List UInt8)} (hn : numsOf ws = none) : dWords h (w0 :: ws) = (say [wWhat], h) := by
 show (match numsOf ws with | none => (say [wWhat], h) | some n => (dAsk h w0 n).getD (say [wWhat], h)) = _;rw [hn]
theorem dw_tail {h : House} {L : List (List UInt8)} (hp : 0 < L.length) (hn : numsOf L.tail = none) : dWords h L = (say [wWhat], h) := by
 cases L with
 | nil => exact absurd hp (by simp)
 | cons a l => exact dw_none hn
theorem numsOf_tail {L : List (List UInt8)} {j : Nat} {u : List UInt8} {m : List Int} (h1 : 1 <= j) (hu : L[j]? = some u) (hm : numsOf (L.take j).tail = some m) :
 (∀ n, numOf u = some n -> numsOf (L.take (j + 1)).tail = some (m ++ [n])) /\ (numOf u = none -> numsOf L.tail = none) := by
 obtain ⟨k, rfl⟩ : ∃ k, j = k + 1 := ⟨j - 1, by omega⟩
 cases L with
 | nil => simp at hu
 | cons w ws => exact numsOf_snoc (l := ws) (k := k) (by simpa using hu) hm
theorem take1_tail (L : List (List UInt8)) : numsOf (L.take 1).tail = some [] := by cases L <;> rfl
theorem calm_line (c : Int) : ((⟨#[99, 97, 108, 109, 32]⟩ : ByteArray) ++ mkStr (Lib.itoa c)).toList ++ [10] = say [wCalm, Lib.itoa c] := by
 rw [toList_cat, mkStr_toList, lit_toList];simp [say, joinL, wCalm]
theorem end_line : (⟨#[101, 110, 100]⟩ : ByteArray).toList ++ [10] = say [wEnd] := by rw [lit_toList]; simp [say, joinL, wEnd]
theorem reply_line (client no : Int) (c : Call) (a : Answer) : ((⟨#[114, 101, 112, 108, 121, 32]⟩ : ByteArray) ++ mkStr (recLine client no c a)).toList ++ [10] = say (wReply :: recWords client no c a) := by
 rw [toList_cat, mkStr_toList, lit_toList];simp [recLine, say, joinL, recWords, wReply]
def callLn (client no : Int) (c : Call) : ByteArray := (⟨#[99, 97, 108, 108, 32]⟩ : ByteArray) ++ mkStr (Lib.itoa client) ++ (⟨#[32]⟩ : ByteArray) ++ mkStr (Lib.itoa no) ++ (⟨#[32]⟩ : ByteArray) ++ (callText c).1
theorem call_line (client no : Int) (c : Call) : (callLn client no c).toList ++ [10] = say [wCall, Lib.itoa client, Lib.itoa no, cText c] := by
 have e1 : (⟨#[32]⟩ : ByteArray).toList = [32] := mkStr_toList [32];unfold callLn;rw [toList_cat, toList_cat, toList_cat, toList_cat, toList_cat, mkStr_toList, mkStr_toList, e1, lit_toList];simp [say, joinL, wCall, cText]
theorem cell_same {w w0 : World} {b o : Nat} {v : Value} (h : w.heap[b]? = w0.heap[b]?) (hc : w0.cell? ⟨b, o, none⟩ = some v) : w.cell? ⟨b, o, none⟩ = some v := by
 unfold World.cell? at hc ⊢;rw [show w.heap[(⟨b, o, none⟩ : Addr).block]? = w0.heap[(⟨b, o, none⟩ : Addr).block]? from h];exact hc
theorem has_hold {α : Type} [Lies α] {X : Type} {R : Rep X} {x : X} {W w w' : World} {g : Nat} {T E : TypeId} {v : Value} {l : List α} (h : Has R W w x) (hx : Ext w w') (hh : Holds w' g T E v l) (hg : w.heap.size <= g) (hv : ∀ k, v.ownBlock = some k -> w.heap.size <= k) :
 Has (R.and (repHolds g T E)) W w' (x, l) :=
 h.beside (G := foot g v) hx ⟨v, fun _ => Iff.rfl, hh⟩ fun k hk => by
  rcases hk with rfl | hk
  ·exact hg
  ·exact hv k hk
def LnRel (w3 : World) (gn : Nat) (L : List (List UInt8)) (i : Value) (wr : World) : Prop :=
 ∃ (j : Nat) (m : List Int) (v : Value), i = .int .i64 j /\ 1 <= j /\ j <= L.length /\ numsOf (L.take j).tail = some m /\ m.length + 1 = j /\ Holds wr gn 76 3 v m /\ Ext w3 wr /\ ∀ q, v.ownBlock = some q -> w3.heap.size <= q
section
variable {X : Type} {S : Rep X} {x : X} {W w w0 : World} {gr gh gl gn : Nat} {t : List UInt8} {h : House} {F0 : Nat -> Prop}
theorem env_nums {Y : Type} {R : Rep Y} {z : Y} {Ls : List ByteArray} {m : List Int} (H : Has ((EV S gl gn).and R) W w (((x, Ls), m), z)) :
 ∃ A c, (∀ w', Ext w w' -> w'.cell? ⟨gn, 0, none⟩ = some (.slice A m.length c)) /\ Reads w w.heap.size A m := by
 obtain ⟨_, ⟨v, _, hn⟩, _⟩ := H.left.right.ex;obtain ⟨A, c, rfl, _⟩ := hn.own.form;exact ⟨A, c, fun w' hx => cell_of (hx.blk hn.cell id) 0, hn.own.reads⟩
def PRRel (S : Rep X) (x : X) (W : World) (w0 : World) (F0 : Nat -> Prop) (gr gh : Nat) (t : List UInt8) (h : House) (i : Value) (wr : World) : Prop :=
 ∃ k : Nat, i = .int .i64 k /\ k <= h.bag.length /\ Has (RS S w0 F0 gr) W wr ((x, ()), refCells (t ++ (h.bag.take k).flatMap packTxt) gh)
theorem still_reads {α : Type} [Lies α] {A : Option Addr} {l : List α} (hr : ReadsIn w0 F0 A l) : ∀ w' F, (S.and (repStill w0 F0)).on w' F (x, ()) -> Reads w' w'.heap.size A l := fun _ _ ⟨_, _, _, h2, _⟩ => hr.later h2.2
structure StillAll (w0 : World) (F0 Fn : Nat -> Prop) (gr gh : Nat) (w : World) : Prop where
 ptr : w.cell? ⟨gr, 1, none⟩ = some (.pointer (some ⟨gh, 0, none⟩))
 house : ∀ k, F0 k -> w.heap[k]? = w0.heap[k]?
 nums : ∀ k, Fn k -> w.heap[k]? = w0.heap[k]?
abbrev EVs {X : Type} (S : Rep X) (gl : Nat) (w0 : World) (Fn : Nat -> Prop) : Rep ((X × List ByteArray) × Unit) := (S.and (HLs gl)).and (repStill w0 Fn)
theorem env_still {Y : Type} {R : Rep Y} {z : Y} {Ls : List ByteArray} {m : List Int} (H : Has ((EV S gl gn).and R) W w (((x, Ls), m), z)) :
 ∃ Fn, Has ((EVs S gl w Fn).and R) W w (((x, Ls), ()), z) /\ ∃ A c, w.cell? ⟨gn, 0, none⟩ = some (.slice A m.length c) /\ Fn gn /\ ReadsIn w Fn A m := by
 obtain ⟨⟨K, ⟨F, G, ⟨F1, Fn, hS, ⟨v, hf, hn⟩, hd1, hF⟩, hR, hd, hK⟩, hW⟩, hx⟩ := H;obtain ⟨A, c, rfl, hr, _⟩ := owns_in (F0 := Fn) hn.own fun k hk => (hf k).2 (.inr hk);have hlt := Rep.lt (HNs gn) (w := w) (F := Fn) (x := m) ⟨_, hf, hn⟩;exact ⟨Fn, ⟨⟨K, ⟨F, G, ⟨F1, Fn, hS, ⟨fun _ => Iff.rfl, fun k hk => ⟨hlt k hk, rfl⟩⟩, hd1, hF⟩, hR, hd, hK⟩, hW⟩, hx⟩, A, c, cell_of hn.cell 0, (hf gn).2 (.inl rfl), hr⟩
theorem still_all {Fn : Nat -> Prop} {Ls : List ByteArray} (H : Has (RS (EVs S gl w0 Fn) w0 F0 gr) W w ((((x, Ls), ()), ()), refCells t gh)) : StillAll w0 F0 Fn gr gh w := by
 obtain ⟨_, hF⟩ := H.left.left.right_on;exact ⟨(cell_of (rb_blk H) 1).trans rfl, fun k hk => (ref_as H k hk).2, fun k hk => (hF.2 k hk).2⟩
theorem rin_num {Fn : Nat -> Prop} {A : Option Addr} {m : List Int} (h : ReadsIn w0 Fn A m) {k : Nat} {a : Int} (hk : m[k]? = some a) : ∃ ad, A = some ad /\ ∀ w' : World, (∀ k, Fn k -> w'.heap[k]? = w0.heap[k]?) -> w'.cell? (ad.add k) = some (.int .i64 a) := by
 obtain ⟨ad, e, hb, hat⟩ := h k a hk;refine ⟨ad, e, fun w' hs => ?_⟩;have h1 := (hat.of_same (w' := w') (by rw [show (ad.add (k * Lies.size Int)).block = ad.block by unfold Addr.add; split <;> rfl]; exact hs _ hb)) 0 _ rfl
 have h2 : (ad.add (k * Lies.size Int)).add 0 = ad.add k := by
  show (ad.add (k * 1)).add 0 = _;rw [Nat.mul_one];unfold Addr.add;split <;> simp_all
 rwa [h2] at h1
theorem rin_num0 {Fn : Nat -> Prop} {A : Option Addr} {m : List Int} (h : ReadsIn w0 Fn A m) {a : Int} (hk : m[0]? = some a) : ∃ ad, A = some ad /\ ∀ w' : World, (∀ k, Fn k -> w'.heap[k]? = w0.heap[k]?) -> w'.cell? ad = some (.int .i64 a) := by
 obtain ⟨ad, e, h1⟩ := rin_num h hk;refine ⟨ad, e, fun w' hx => ?_⟩;have h2 : ad.add 0 = ad := by unfold Addr.add; split <;> simp_all
 have h3 := h1 w' hx;rwa [h2] at h3
theorem rin_num1 {Fn : Nat -> Prop} {A : Option Addr} {m : List Int} (h : ReadsIn w0 Fn A m) {a : Int} (hk : m[1]? = some a) : ∃ ad, A = some ad /\ ∀ w' : World, (∀ k, Fn k -> w'.heap[k]? = w0.heap[k]?) -> w'.cell? ⟨ad.block, ad.off + 1, none⟩ = some (.int .i64 a) := by
 obtain ⟨ad, e, h1⟩ := rin_num h hk;refine ⟨ad, e, fun w' hx => ?_⟩;have h2 : ad.add 1 = ⟨ad.block, ad.off + 1, none⟩ := by unfold Addr.add; simp
 have h3 := h1 w' hx;rwa [h2] at h3
theorem env_as {Fn : Nat -> Prop} {Y : Type} {R : Rep Y} {z : Y} {Ls : List ByteArray} (H : Has ((EVs S gl w0 Fn).and R) W w (((x, Ls), ()), z)) : ∀ k, Fn k -> w.heap[k]? = w0.heap[k]? := fun k hk => by
 obtain ⟨_, hF⟩ := H.left.right_on;exact (hF.2 k hk).2
structure DoneAt (w0 : World) (F0 : Nat -> Prop) (gh : Nat) (o : Nat) (L : List Record) : Prop where
 it : ∃ A c, w0.cell? ⟨gh, o, none⟩ = some (.slice A L.length c) /\ ReadsIn w0 F0 A L
theorem done_at (hi : HouseIn w0 F0 gh h) : DoneAt w0 F0 gh 8 (h.G 0).done /\ DoneAt w0 F0 gh 16 (h.G 1).done /\ DoneAt w0 F0 gh 24 (h.G 2).done := by
 obtain ⟨A0, c0, _, h0, r0⟩ := hi.g0;obtain ⟨A1, c1, _, h1, r1⟩ := hi.g1;obtain ⟨A2, c2, _, h2, r2⟩ := hi.g2;exact ⟨⟨A0, c0, h0, r0⟩, ⟨A1, c1, h1, r1⟩, ⟨A2, c2, h2, r2⟩⟩
end
end Go.Proofs.YtalfbhhldfffkaaGreatDoor
