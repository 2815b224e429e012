/- Story1: the walk of show of package story. (And behind it: Story2, Story3.) -/
import Derived.Test.YtalfbhhldfffkaaGreatDoorGFiles
import Derived.Test.YtalfbhhldfffkaaGreatDoorGPlain
import Derived.Test.YtalfbhhldfffkaaGreatDoorGBasis
import Derived.Test.YtalfbhhldfffkaaGreatDoorGCodec
import Derived.Test.YtalfbhhldfffkaaGreatDoorGStore
import Derived.Test.YtalfbhhldfffkaaGreatDoorFilesUse
set_option maxHeartbeats 8000000
set_option maxRecDepth 100000
namespace Go.Proofs.YtalfbhhldfffkaaGreatDoor
open Go.RowKit
theorem toList_app (a b : ByteArray) : (a ++ b).toList = a.toList ++ b.toList := by rw [ByteArray.toList_eq, ByteArray.toList_eq, ByteArray.toList_eq]; simp [ByteArray.data_append]
theorem mkStr_app (a b : List UInt8) : mkStr a ++ mkStr b = mkStr (a ++ b) := toList_inj (by rw [toList_app, mkStr_toList, mkStr_toList, mkStr_toList])
theorem showOne_str (n t : ByteArray) : n ++ (⟨#[61]⟩ : ByteArray) ++ t ++ (⟨#[10]⟩ : ByteArray) = mkStr (showOne n t) := toList_inj (by
 rw [mkStr_toList, toList_app, toList_app, toList_app];rw [show (⟨#[61]⟩ : ByteArray).toList = [61] by decide +kernel, show (⟨#[10]⟩ : ByteArray).toList = [10] by decide +kernel];simp [showOne])
theorem fshow_take {l : List FileD} {k : Nat} {f : FileD} (h : l[k]? = some f) : fshow (l.take (k + 1)) = fshow (l.take k) ++ showOne f.name f.text := by
 unfold fshow;rw [List.take_add_one, h, List.flatMap_append];simp
theorem fshow_take_le (l : List FileD) (k : Nat) : (fshow (l.take k)).length <= (fshow l).length := by
 have h : fshow l = fshow (l.take k) ++ fshow (l.drop k) := by
  unfold fshow;rw [<- List.flatMap_append, List.take_append_drop]
 rw [h, List.length_append];omega
def ShowRel {Y : Type} (S : Rep Y) (y : Y) (W : World) (g : Nat) (l : List FileD) (v4 : Value) (s i : Value) (wr : World) : Prop :=
 ∃ k : Nat, i = .int .i64 k /\ k <= l.length /\ s = .string (mkStr (fshow (l.take k))) /\ Has ((S.and (repHolds g 144 217)).and (repOwn 9)) W wr ((y, l), (v4, l.map (·.name)))
def ShowPost {Y : Type} (S : Rep Y) (y : Y) (W : World) (g : Nat) (l : List FileD) (e : Ending) (w' : World) : Prop :=
 e = .returned (.string (mkStr (fshow l))) /\ Has (S.and (repHolds g 144 217)) W w' (y, l)
theorem story_show {Y : Type} (S : Rep Y) (y : Y) (W w : World) (g : Nat) (l : List FileD) (h : Has (S.and (repHolds g 144 217)) W w (y, l)) (hok : FOk l) :
 Calls Tryz.prog 140 #[.pointer (some ⟨g, 0, none⟩)] w (ShowPost S y W g l) := by
 have H := lh h;have HOK := lh hok;have hl6 := hok.len;have HLE := lh (fshow_len hok);obtain ⟨F, ⟨v, hF, hh⟩, _⟩ := h.snd;have HH := lh hh;clear h hok hF hh;go_enter Tryz.func140, Tryz.ntmps140
 go_wp2_with (first
  | (go_at_call 158
     refine (files_names w g v l HH.out (by omega)).mono ?_;rintro e w4 ⟨A4, c4, he4, ho4, hx4, hf4⟩;rw [List.length_map] at he4 ho4 hf4;subst he4;have H4 := lh (H.out.newList hx4 ho4 hf4);clear ho4 hx4 hf4))
 go_loopw [3, 9] (fun s i wr => ShowRel S y W g l (.slice A4 l.length c4) s i wr) (fun _ i _ => l.length - (intOf i).toNat)
 case atStart => exact ⟨0, rfl, Nat.zero_le _, rfl, H4.out⟩
 case round =>
  obtain ⟨k, rfl, hk, rfl, hz⟩ := hrel;have HZ := lh hz;clear hz;by_cases hlt : k < l.length
  ·obtain ⟨f, hf⟩ : ∃ f, l[k]? = some f := ⟨l[k], by simp [hlt]⟩
   obtain ⟨ad, rfl, hadb, hat⟩ := HZ.out.right.owns.reads k f.name (by simp [hf]);have hcn : wr.cell? (ad.add k) = some (.string f.name) := by have := hat 0 (.string f.name) rfl; rwa [addr_add_add, show k * Lies.size ByteArray + 0 = k from Nat.mul_one k] at this
   have HF := lh hf;have hns : f.name.size <= 5 := okText_le (HOK.out.each f (List.mem_of_getElem? hf)).1;have hts : f.text.size <= 16 := (HOK.out.each f (List.mem_of_getElem? hf)).2;have HST := lh (show StrCall (readOf f.name) from ⟨by show f.name.size <= _; omega, (by decide : noText.size <= 140737488351232), (by decide : noText.size <= 140737488351232)⟩);obtain ⟨J, hJ⟩ : ∃ J, mkStr (fshow (l.take k)) = J := ⟨_, rfl⟩
   have hjs : J.size <= 138 := by
    have h1 := fshow_take_le l k;have h2 := HLE.out;rw [<- hJ, mkStr_size];omega
   have h1 : (f.name ++ (⟨#[61]⟩ : ByteArray)).size <= 6 := by rw [ByteArray.size_append]; show _ + 1 <= 6; omega
   have h2 : (f.name ++ (⟨#[61]⟩ : ByteArray) ++ f.text).size <= 22 := by rw [ByteArray.size_append]; omega
   have h3 : (f.name ++ (⟨#[61]⟩ : ByteArray) ++ f.text ++ (⟨#[10]⟩ : ByteArray)).size <= 23 := by rw [ByteArray.size_append]; show _ + 1 <= 23; omega
   have HJ := lh (show J ++ (f.name ++ (⟨#[61]⟩ : ByteArray) ++ f.text ++ (⟨#[10]⟩ : ByteArray)) = mkStr (fshow (l.take (k + 1))) by rw [showOne_str, <- hJ, mkStr_app, fshow_take HF.out]);rw [hJ];clear hf hat hJ;go_wp2_with fail
   obtain ⟨F5, hF5, hm5⟩ := HZ.out.fs;refine (files_do' wr g F5 l (readOf f.name) hF5 HOK.out HST.out (fdo_read HOK.out HF.out)).mono ?_;rintro e w5 ⟨rfl, hq5⟩;have H5 := lh (hm5 _ _ hq5);clear hF5 hm5 hq5 hcn HZ;go_wp2
   go_roundw
   case rel => exact ⟨k + 1, by go_num, by omega, by rw [HJ.out], H5.out⟩
   case measure => simp [intOf]; omega
  ·obtain rfl : k = l.length := by omega
   have HE := lh (List.take_length (l := l));go_wp2
   go_ret
   rw [HE.out];exact ⟨rfl, HZ.out.left⟩
def StoryAt (w : World) (g : Nat) (L : List Record) (T : List ByteArray) : Prop :=
 ∃ (A A' : Option Addr) (c c' : Nat), w.heap[g]? = some (.cells #[.slice A L.length c, .slice A' T.length c'] 189 (0, 0)) /\ Reads w w.heap.size A L /\ Reads w w.heap.size A' T /\ L.length <= c
theorem story_len (w : World) (g : Nat) (L : List Record) (T : List ByteArray) (h : StoryAt w g L T) :
 Calls Tryz.prog 101 #[.pointer (some ⟨g, 0, none⟩)] w fun e w' => e = .returned (.int .i64 L.length) /\ w = w' := by
 obtain ⟨A, A', c, c', hb, h3, h4, _⟩ := h;have hc0 := cell_of hb 0;rw [show (#[.slice A L.length c, .slice A' T.length c'] : Array Value)[0]? = some (.slice A L.length c) from rfl] at hc0;clear hb h3 h4;go_enter Tryz.func101, Tryz.ntmps101
 go_wp2
 go_ret
 exact ⟨rfl, rfl⟩
def storyRec (L : List Record) (n : Int) : Record := if n < 0 then Record.zero else (L[n.toNat]?).getD Record.zero
def SRecPost (w : World) (L : List Record) (n : Int) (e : Ending) (w' : World) : Prop := e = .returned (.tuple #[.agg (storyRec L n).cells, .bool (decide (0 <= n /\ n < L.length))]) /\ Ext w w'
theorem story_record (w : World) (g : Nat) (L : List Record) (T : List ByteArray) (n : Int) (h : StoryAt w g L T) :
 Calls Tryz.prog 102 #[.pointer (some ⟨g, 0, none⟩), .int .i64 n] w (SRecPost w L n) := by
 obtain ⟨A, A', c, c', hb, h3, h4, _⟩ := h;have hc0 := cell_of hb 0;rw [show (#[.slice A L.length c, .slice A' T.length c'] : Array Value)[0]? = some (.slice A L.length c) from rfl] at hc0;have hlg := (aG hb).1;have HR := lh h3;clear hb h3 h4;by_cases hn : n < 0
 ·have HE := lh (show storyRec L n = Record.zero by unfold storyRec; rw [if_pos hn]);have HD := lh (show decide (0 <= n /\ n < L.length) = false by simp; omega);go_enter Tryz.func102, Tryz.ntmps102
  go_wp2
  refine bodyPost_ret (results_cell_tmp rfl _ _ ⟨w.heap.size, 0, none⟩ (.agg (storyRec L n).cells) rfl ?_) rfl ?_
  ·rw [HE.out];exact load_block isRecord (heap_alloc_new _ _)
  ·exact ⟨by rw [HD.out]; rfl, (Touch.refl _ w).alloc _⟩
 by_cases hlt : n < L.length
 ·obtain ⟨k, rfl⟩ : ∃ k : Nat, n = k := ⟨n.toNat, by omega⟩
  obtain ⟨r, hx⟩ : ∃ r, L[k]? = some r := ⟨L[k]'(by omega), by simp [show k < L.length by omega]⟩
  have HE := lh (show storyRec L k = r by unfold storyRec; rw [if_neg hn, show ((k : Int)).toNat = k by omega, hx]; rfl);have HD := lh (show decide (0 <= (k : Int) /\ (k : Int) < L.length) = true by simp; omega);obtain ⟨ad, rfl, hadb, hat⟩ := HR.out _ r hx;have hadk : (ad.add (k * 8)).block = ad.block := by unfold Addr.add; split <;> rfl
  replace hat : At w (ad.add (k * 8)) r := hat
  have hx1 : Ext w (w.alloc (.cells Record.zero.cells 112)) := (Touch.refl _ w).alloc _;have hat1 : At (w.alloc (.cells Record.zero.cells 112)) (ad.add (k * 8)) r := hat.of_same (hx1.block _ (by rw [hadk]; exact hadb) id);have hLV := LV_Record hat1;clear hx hat hat1 hadk;go_enter Tryz.func102, Tryz.ntmps102
  go_wp2
  refine bodyPost_ret (results_cell_tmp rfl _ _ ⟨w.heap.size, 0, none⟩ (.agg (storyRec L k).cells) rfl ?_) rfl ?_
  ·rw [HE.out];exact load_block isRecord (heap_alloc_new _ _)
  ·exact ⟨by rw [HD.out]; rfl, (Touch.refl _ w).alloc _⟩
 ·have HE := lh (show storyRec L n = Record.zero by unfold storyRec; rw [if_neg hn, List.getElem?_eq_none (by omega)]; rfl);have HD := lh (show decide (0 <= n /\ n < L.length) = false by simp; omega);go_enter Tryz.func102, Tryz.ntmps102
  go_wp2
  refine bodyPost_ret (results_cell_tmp rfl _ _ ⟨w.heap.size, 0, none⟩ (.agg (storyRec L n).cells) rfl ?_) rfl ?_
  ·rw [HE.out];exact load_block isRecord (heap_alloc_new _ _)
  ·exact ⟨by rw [HD.out]; rfl, (Touch.refl _ w).alloc _⟩
def textAt (T : List ByteArray) (n : Int) : ByteArray := if n < 0 then noText else (T[n.toNat]?).getD noText
def STextPost (w : World) (L : List Record) (T : List ByteArray) (n : Int) (e : Ending) (w' : World) : Prop := e = .returned (.tuple #[.string (textAt T n), .bool (decide (0 <= n /\ n <= L.length))]) /\ w = w'
theorem story_text (w : World) (g : Nat) (L : List Record) (T : List ByteArray) (n : Int) (h : StoryAt w g L T) (hT : T.length = L.length + 1) :
 Calls Tryz.prog 103 #[.pointer (some ⟨g, 0, none⟩), .int .i64 n] w (STextPost w L T n) := by
 obtain ⟨A, A', c, c', hb, h3, h4, _⟩ := h;have hc0 := cell_of hb 0;rw [show (#[.slice A L.length c, .slice A' T.length c'] : Array Value)[0]? = some (.slice A L.length c) from rfl] at hc0;have hc1 := cell_of hb 1;rw [show (#[.slice A L.length c, .slice A' T.length c'] : Array Value)[1]? = some (.slice A' T.length c') from rfl] at hc1;have HR := lh h4;clear hb h3 h4;by_cases hn : n < 0
 ·have HE := lh (show textAt T n = noText by unfold textAt; rw [if_pos hn]);have HD := lh (show decide (0 <= n /\ n <= L.length) = false by simp; omega);go_enter Tryz.func103, Tryz.ntmps103
  go_wp2
  go_ret2
  exact ⟨by rw [HE.out, HD.out]; rfl, rfl⟩
 by_cases hlt : n <= L.length
 ·obtain ⟨k, rfl⟩ : ∃ k : Nat, n = k := ⟨n.toNat, by omega⟩
  obtain ⟨r, hx⟩ : ∃ r, T[k]? = some r := ⟨T[k]'(by omega), by simp [show k < T.length by omega]⟩
  have HE := lh (show textAt T k = r by unfold textAt; rw [if_neg hn, show ((k : Int)).toNat = k by omega, hx]; rfl);have HD := lh (show decide (0 <= (k : Int) /\ (k : Int) <= L.length) = true by simp; omega);obtain ⟨ad, rfl, hadb, hat⟩ := HR.out _ r hx;have hcn : w.cell? (ad.add k) = some (.string r) := by have := hat 0 (.string r) rfl; rwa [addr_add_add, show k * Lies.size ByteArray + 0 = k from Nat.mul_one k] at this
  have hkt : (k : Int) < T.length := by omega
  clear hx hat
  go_enter Tryz.func103, Tryz.ntmps103
  go_wp2
  go_ret2
  exact ⟨by rw [HE.out, HD.out]; rfl, rfl⟩
 ·have HE := lh (show textAt T n = noText by unfold textAt; rw [if_neg hn, List.getElem?_eq_none (by omega)]; rfl);have HD := lh (show decide (0 <= n /\ n <= L.length) = false by simp; omega);go_enter Tryz.func103, Tryz.ntmps103
  go_wp2
  go_ret2
  exact ⟨by rw [HE.out, HD.out]; rfl, rfl⟩
def storyUpto (L : List Record) (k : Nat) : List ByteArray := (List.range (k + 1)).map fun j => mkStr (fshow (fbehind (L.take j)))
theorem storyUpto_succ (L : List Record) (k : Nat) : storyUpto L (k + 1) = storyUpto L k ++ [mkStr (fshow (fbehind (L.take (k + 1))))] := by
 unfold storyUpto;rw [List.range_succ, List.map_append];rfl
theorem storyUpto_zero (L : List Record) : storyUpto L 0 = [noText] := by
 unfold storyUpto;simp [fbehind, fshow];decide
theorem length_storyUpto (L : List Record) (k : Nat) : (storyUpto L k).length = k + 1 := by simp [storyUpto]
theorem length_storyTexts (L : List Record) : (storyTexts L).length = L.length + 1 := by simp [storyTexts]
theorem storyTexts_at (L : List Record) {k : Nat} (hk : k <= L.length) : (storyTexts L)[k]? = some (mkStr (fshow (fbehind (L.take k)))) := by
 unfold storyTexts;rw [List.getElem?_map, List.getElem?_range (by omega)];rfl
section
variable {α β N V : Type} [Lies α] [Lies β] {R : Rep N} {O : Rep V} {E E' : TypeId} {b : Nat} {T : TypeId} {W w wx w' : World} {n : N} {vl vt vt' : Value} {l : List α} {t t' : List β} {cs cs' : Array Value} {o : V}
abbrev OfR (R : Rep N) (α β : Type) [Lies α] [Lies β] (E E' : TypeId) (b : Nat) (T : TypeId) (O : Rep V) : Rep ((((N × (Value × List α)) × (Value × List β)) × Array Value) × V) :=
 (((R.and (repOwn E)).and (repOwn E')).and (repBlock b T)).and O
theorem of_append (h : Has (OfR R α β E E' b T O) W w ((((n, (vl, l)), (vt, t)), cs), o)) (hx : Ext w wx) (hown : Owns w' E' vt' t') (hgrow : wx.grownBy w' vt.ownBlock)
 (hat : vt'.ownBlock = vt.ownBlock \/ vt'.ownBlock = some wx.heap.size) : Has (OfR R α β E E' b T O) W w' ((((n, (vl, l)), (vt', t')), cs), o) := by
 have h1 := (h.map fun _ => Rep.cg fun _ => Rep.ex).map fun _ => Rep.ex;exact ((h1.append hx hown hgrow hat).map fun _ => Rep.ex).map fun _ => Rep.cg fun _ => Rep.ex
theorem of_turn (h : Has (OfR R α β E E' b T O) W w ((((n, (vl, l)), (vt, t)), cs), o)) (ht : Touch (fun k => k = b) w w') (hc : w'.heap[b]? = some (.cells cs' T (0, 0))) : Has (OfR R α β E E' b T O) W w' ((((n, (vl, l)), (vt, t)), cs'), o) :=
 ((h.exch').turn ht hc).exch'
theorem of_blk (h : Has (OfR R α β E E' b T O) W w ((((n, (vl, l)), (vt, t)), cs), o)) : w.heap[b]? = some (.cells cs T (0, 0)) := h.left.blk
theorem of_list (h : Has (OfR R α β E E' b T O) W w ((((n, (vl, l)), (vt, t)), cs), o)) : Owns w E vl l := h.left.left.left.right.owns
theorem of_texts (h : Has (OfR R α β E E' b T O) W w ((((n, (vl, l)), (vt, t)), cs), o)) : Owns w E' vt t := h.left.left.right.owns
end
abbrev OStory (gs gf : Nat) := OfR repNone Record ByteArray 112 9 gs 189 (repHolds (α := FileD) gf 144 217)
def SofRel (W : World) (gs gf : Nat) (A1 : Option Addr) (c1 : Nat) (L : List Record) (i : Value) (wr : World) : Prop :=
 ∃ (k n3 c3 : Nat) (A3 : Option Addr), i = .int .i64 k /\ k <= L.length /\ n3 = k + 1 /\
   Has (OStory gs gf) W wr (((((), (.slice A1 L.length c1, L)), (.slice A3 n3 c3, storyUpto L k)), #[.slice A1 L.length c1, .slice A3 n3 c3]), fbehind (L.take k))
def repStory (g : Nat) : Rep (List Record) where
 on w F L := ∃ (A A' : Option Addr) (c c' : Nat), (((repNone.and (repOwn (α := Record) 112)).and (repOwn (α := ByteArray) 9)).and (repBlock g 189)).on w F ((((), (.slice A L.length c, L)), (.slice A' (L.length + 1) c', storyTexts L)), #[.slice A L.length c, .slice A' (L.length + 1) c'])
 lt := by
  rintro w F L ⟨A, A', c, c', h⟩;exact Rep.lt _ h
 keep := by
  rintro w w' F L ⟨A, A', c, c', h⟩ hk;exact ⟨A, A', c, c', Rep.keep _ h hk⟩
theorem story_at {w : World} {F : Nat -> Prop} {g : Nat} {L : List Record} (h : (repStory g).on w F L) : StoryAt w g L (storyTexts L) := by
 obtain ⟨A, A', c, c', h3⟩ := h;obtain ⟨F2, h2, _⟩ := Rep.fst h3;obtain ⟨F3, hb, _⟩ := Rep.snd h3;obtain ⟨F4, ht, _⟩ := Rep.snd h2;obtain ⟨F5, h1, _⟩ := Rep.fst h2;obtain ⟨F6, hl, _⟩ := Rep.snd h1;have hl' : Owns w 112 (.slice A L.length c) L := hl.2;have ht' : Owns w 9 (.slice A' (L.length + 1) c') (storyTexts L) := ht.2;refine ⟨A, A', c, c', ?_, hl'.reads, ?_, ?_⟩
 ·rw [length_storyTexts]; exact hb.2
 ·have h5 := ht';rw [<- length_storyTexts] at h5;exact h5.reads
 ·obtain ⟨_, _, e, hc, _⟩ := hl'.form; cases e; exact hc
def SofHas (w : World) (l : List UInt8) (e : Ending) (w' : World) : Prop := ∃ g, e = .returned (.pointer (some ⟨g, 0, none⟩)) /\ Ext w w' /\ StoryAt w' g (recAll l) (storyTexts (recAll l)) /\ w.heap.size <= g /\ Has (repStory g) w w' (recAll l)
theorem story_of_has (w : World) (A : Option Addr) (n c : Nat) (l : List UInt8) (h : BytesIn w.heap.size w A n c l) (hl : l.length <= 10000) :
 Calls Tryz.prog 99 #[.slice A n c] w (SofHas w l) := by
 have HB := lh h;clear h;go_enter Tryz.func99, Tryz.ntmps99
 go_wp2_with fail
 refine (codec_all w A n c l HB.out hl).mono ?_;rintro e w1 ⟨A1, c1, rfl, ho1, hx1, hf1⟩;have H1 := lh ((Has.none w).newList hx1 ho1 hf1);have HX1 := lh hx1;have HOK := lh (recAll_is l).ok
 have hLl : (recAll l).length <= 10000 := by
  have h1 := log_len HOK.out;have h2 := (recAll_pre l).1;omega
 clear ho1 hx1 hf1;generalize (logBytes (recAll l)).length = lb;generalize hLL : recAll l = L at *;have HLL := lh hLL;clear hLL
 have ho2 : Owns (w1.alloc (.cells #[.string noText] 9)) 9 (.slice (some ⟨w1.heap.size, 0, none⟩) 1 1) (storyUpto L 0) := by
  rw [storyUpto_zero];exact own_one (x := noText) (heap_alloc_new _ _)
 have H2 := lh ((H1.out.newList ((Touch.refl _ w1).alloc _) ho2 (fun k hk => by simp [Value.ownBlock] at hk; omega)).box #[.slice A1 L.length c1, .slice (some ⟨w1.heap.size, 0, none⟩) 1 1] 189);clear ho2 H1;go_wp2_with fail
 rw [show (w1.alloc (.cells #[.string noText] 9)).heap.size = w1.heap.size + 1 from World.size_alloc _ _] at H2;change Calls Tryz.prog _ _ ((w1.alloc (.cells #[.string noText] 9)).alloc (.cells #[.slice A1 L.length c1, .slice (some ⟨w1.heap.size, 0, none⟩) 1 1] 189)) _;generalize (w1.alloc (.cells #[.string noText] 9)).alloc (.cells #[.slice A1 L.length c1, .slice (some ⟨w1.heap.size, 0, none⟩) 1 1] 189) = w2 at H2 ⊢;have HGS := lh (show w.heap.size <= w1.heap.size + 1 by have := HX1.out.size; omega);generalize w1.heap.size + 1 = gs at H2 HGS ⊢;generalize w1.heap.size = bt at H2 ⊢;refine (files_new w2).mono ?_;rintro e w3 ⟨rfl, rfl⟩;have H3 := lh (show Has (OStory gs w2.heap.size) w _ (((((), (.slice A1 L.length c1, L)), (.slice (some ⟨bt, 0, none⟩) 1 1, storyUpto L 0)), #[.slice A1 L.length c1, .slice (some ⟨bt, 0, none⟩) 1 1]), ([] : List FileD)) from files_begin H2.out);clear H2;go_wp2_with fail
 generalize w2.alloc (.cells #[.slice none 0 0] 144) = w3 at H3 ⊢;generalize w2.heap.size = gf at H3 ⊢;go_loopw [21] (fun i wr => SofRel w gs gf A1 c1 L i wr) (fun i _ => L.length - (intOf i).toNat)
 case atStart => exact ⟨0, 1, 1, some ⟨bt, 0, none⟩, rfl, Nat.zero_le _, rfl, H3.out⟩
 case round =>
  clear H3;obtain ⟨k, n3, c3, A3, rfl, hk, hn3, hz⟩ := hrel;have HZ := lh hz;have HN3 := lh hn3;clear hz hn3;by_cases hlt : k < L.length
  ·obtain ⟨r, hx⟩ : ∃ r, L[k]? = some r := ⟨L[k], by simp [hlt]⟩
   obtain ⟨ad, rfl, hadb, hat⟩ := (of_list HZ.out).reads k r hx;have hLV : LV Tryz.prog 112 (ad.add (k * 8)) wr = .ok (.agg r.cells) wr := LV_Record hat
   have HXK := lh hx;have HRO := lh (HOK.out r (List.mem_of_getElem? hx));clear hx hat
   have hbr : (wr.alloc (.cells r.cells 112)).heap[wr.heap.size]? = some (.cells r.cells 112 (0, 0)) := heap_alloc_new _ _;have H4 := lh (HZ.out.step ((Touch.refl _ wr).alloc (.cells r.cells 112)));go_wp2_with fail
   obtain ⟨F5, hF5, hm5⟩ := H4.out.snd;refine (files_do _ gf F5 _ r.call hF5 (fbehind_ok _) (recok_str HRO.out)).mono ?_;rintro e w5 ⟨rfl, hq5⟩;have h5 := hm5 _ _ hq5;rw [<- fbehind_take HXK.out] at h5;have H5 := lh h5;have hb5 := of_blk h5;clear hF5 hm5 hq5 h5 hbr H4 hLV;generalize wr.heap.size = br at *;go_wp2_with fail
   have hk1 := (cell_of hb5 1).trans (show (#[.slice (some ad) L.length c1, .slice A3 n3 c3] : Array Value)[1]? = some (.slice A3 n3 c3) from rfl);refine wp_region_held_drew (S := fun _ => True) (by kernel_rfl) trivial (fun hHeld => ?_);refine tK 0 ?_;try simp only [pS]
   refine tK 1 ?_;try simp only [pS]
   refine tK 5 ?_;try simp only [pS]
   refine tK 2 ?_;try simp only [pS]
   refine tK 3 ?_;try simp only [pS]
   refine wpAnyH_ready (rs := [4, 6]) (by kernel_rfl) (by simp) ?_;refine AllReadyH.cons (gT rfl) (fun K hK => ?_) (AllReadyH.cons (gT rfl) (fun K hK => ?_) AllReadyH.nil)
   ·skip
    go_simp;refine hK.out _ _ trivial (fun hHeld => ?_);clear hK K;try simp only [pS]
    refine tC 6 fun K hK => ?_;go_simp;go_at_call 140
    refine (story_show _ _ w _ gf _ (H5.out.step (Touch.drew (Touch.refl _ w5))) (fbehind_ok _)).mono ?_;rintro e w6 ⟨rfl, hz6⟩;have H6 := lh hz6;have hb6 := of_blk hz6;have hk6 := (cell_of hb6 1).trans (show (#[.slice (some ad) L.length c1, .slice A3 n3 c3] : Array Value)[1]? = some (.slice A3 n3 c3) from rfl);clear hz6 hHeld;refine hK.out _ _ trivial (fun hHeld => ?_);clear hK K;try simp only [pS]
    refine tC 7 fun K hK => ?_;go_simp;have X7 : Ext w6 (w6.alloc (.cells #[.string (mkStr (fshow (fbehind (L.take (k + 1)))))] 9)) := (Touch.refl _ w6).alloc _;have hk7 := (cell_of (X7.blk hb6 id) 1).trans (show (#[.slice (some ad) L.length c1, .slice A3 n3 c3] : Array Value)[1]? = some (.slice A3 n3 c3) from rfl);clear hHeld;refine hK.out _ _ trivial (fun hHeld => ?_);clear hK K;try simp only [pS]
    refine tC 8 fun K hK => ?_
    refine step_append_own (by rfl) (.tmp 33) (.tmp 36) 22 (by rfl) elemString Tryz.underlying22 (v := .slice A3 n3 c3) (l := storyUpto L k) (by rfl) ((of_texts H6.out).ext X7) [mkStr (fshow (fbehind (L.take (k + 1))))] (by rfl) (n3 + 1) (by rw [length_storyUpto]; have := HN3.out; show k + 1 + 1 = n3 + 1; omega) (by rfl)
     (reads_block (x := mkStr (fshow (fbehind (L.take (k + 1))))) (t := 9) (fr := (0, 0)) (heap_alloc_new _ _) (w6.heap.size + 1) (by omega)) (by rw [length_storyUpto]; show (k + 1 + 1) * 16 <= 140737488355328; omega) ?_
    intro A8 c8 w8 hown8 hgrow8 hat8;have h8 := of_append H6.out X7 hown8 hgrow8 hat8;rw [<- storyUpto_succ] at h8;have H8 := lh h8;have hb8 := of_blk h8;clear hown8 hgrow8 hat8 h8 X7 hb6 hHeld hk6 hk7;refine hK.out _ _ trivial (fun hHeld => ?_);clear hK K;try simp only [pS]
    refine tK 9 ?_;try simp only [pS]
    refine tK 10 ?_;try simp only [pS]
    have hc8 := cell_of hb8 1;have hf8 := frozen_of hb8 1;have hb9 := setCell_heap hb8 1 (.slice A8 (n3 + 1) c8);have H9 := lh (of_turn H8.out (w' := w8.setCell ⟨gs, 1, none⟩ (.slice A8 (n3 + 1) c8)) ((Touch.refl (fun k => k = gs) w8).setCell (a := ⟨gs, 1, none⟩) (.inl rfl) _) hb9);clear hb9;refine tC 11 fun K hK => ?_;go_simp;refine hK.out _ _ trivial (fun hHeld => ?_);clear hK K;try simp only [pS]
    refine tD ?_;clear hb8 hc8 hf8 hHeld H8 hk1;generalize w8.setCell ⟨gs, 1, none⟩ (.slice A8 (n3 + 1) c8) = w9 at H9 ⊢;go_wp2
    go_roundw
    case rel => exact ⟨k + 1, n3 + 1, c8, A8, by go_num, by omega, by have := HN3.out; omega, H9.out⟩
    case measure => simp [intOf]; omega
   ·skip
    go_simp;go_at_call 140
    refine (story_show _ _ w _ gf _ (H5.out.step (Touch.drew (Touch.refl _ w5))) (fbehind_ok _)).mono ?_;rintro e w6 ⟨rfl, hz6⟩;have H6 := lh hz6;have hb6 := of_blk hz6;have hk6 := (cell_of hb6 1).trans (show (#[.slice (some ad) L.length c1, .slice A3 n3 c3] : Array Value)[1]? = some (.slice A3 n3 c3) from rfl);clear hz6 hHeld;refine hK.out _ _ trivial (fun hHeld => ?_);clear hK K;try simp only [pS]
    refine wpAnyH_ready (rs := [4, 7]) (by kernel_rfl) (by simp) ?_;refine AllReadyH.cons (gT rfl) (fun K hK => ?_) (AllReadyH.cons (gT rfl) (fun K hK => ?_) AllReadyH.nil)
    ·skip
     go_simp;refine hK.out _ _ trivial (fun hHeld => ?_);clear hK K;try simp only [pS]
     refine tC 7 fun K hK => ?_;go_simp;have X7 : Ext w6 (w6.alloc (.cells #[.string (mkStr (fshow (fbehind (L.take (k + 1)))))] 9)) := (Touch.refl _ w6).alloc _;have hk7 := (cell_of (X7.blk hb6 id) 1).trans (show (#[.slice (some ad) L.length c1, .slice A3 n3 c3] : Array Value)[1]? = some (.slice A3 n3 c3) from rfl);clear hHeld;refine hK.out _ _ trivial (fun hHeld => ?_);clear hK K;try simp only [pS]
     refine tC 8 fun K hK => ?_
     refine step_append_own (by rfl) (.tmp 33) (.tmp 36) 22 (by rfl) elemString Tryz.underlying22 (v := .slice A3 n3 c3) (l := storyUpto L k) (by rfl) ((of_texts H6.out).ext X7) [mkStr (fshow (fbehind (L.take (k + 1))))] (by rfl) (n3 + 1) (by rw [length_storyUpto]; have := HN3.out; show k + 1 + 1 = n3 + 1; omega) (by rfl)
      (reads_block (x := mkStr (fshow (fbehind (L.take (k + 1))))) (t := 9) (fr := (0, 0)) (heap_alloc_new _ _) (w6.heap.size + 1) (by omega)) (by rw [length_storyUpto]; show (k + 1 + 1) * 16 <= 140737488355328; omega) ?_
     intro A8 c8 w8 hown8 hgrow8 hat8;have h8 := of_append H6.out X7 hown8 hgrow8 hat8;rw [<- storyUpto_succ] at h8;have H8 := lh h8;have hb8 := of_blk h8;clear hown8 hgrow8 hat8 h8 X7 hb6 hHeld hk6 hk7;refine hK.out _ _ trivial (fun hHeld => ?_);clear hK K;try simp only [pS]
     refine tK 9 ?_;try simp only [pS]
     refine tK 10 ?_;try simp only [pS]
     have hc8 := cell_of hb8 1;have hf8 := frozen_of hb8 1;have hb9 := setCell_heap hb8 1 (.slice A8 (n3 + 1) c8);have H9 := lh (of_turn H8.out (w' := w8.setCell ⟨gs, 1, none⟩ (.slice A8 (n3 + 1) c8)) ((Touch.refl (fun k => k = gs) w8).setCell (a := ⟨gs, 1, none⟩) (.inl rfl) _) hb9);clear hb9;refine tC 11 fun K hK => ?_;go_simp;refine hK.out _ _ trivial (fun hHeld => ?_);clear hK K;try simp only [pS]
     refine tD ?_;clear hb8 hc8 hf8 hHeld H8 hk1;generalize w8.setCell ⟨gs, 1, none⟩ (.slice A8 (n3 + 1) c8) = w9 at H9 ⊢;go_wp2
     go_roundw
     case rel => exact ⟨k + 1, n3 + 1, c8, A8, by go_num, by omega, by have := HN3.out; omega, H9.out⟩
     case measure => simp [intOf]; omega
    ·skip
     go_simp;have X7 : Ext w6 (w6.alloc (.cells #[.string (mkStr (fshow (fbehind (L.take (k + 1)))))] 9)) := (Touch.refl _ w6).alloc _;have hk7 := (cell_of (X7.blk hb6 id) 1).trans (show (#[.slice (some ad) L.length c1, .slice A3 n3 c3] : Array Value)[1]? = some (.slice A3 n3 c3) from rfl);clear hHeld;refine hK.out _ _ trivial (fun hHeld => ?_);clear hK K;try simp only [pS]
     refine tC 4 fun K hK => ?_;go_simp;refine hK.out _ _ trivial (fun hHeld => ?_);clear hK K;try simp only [pS]
     refine tC 8 fun K hK => ?_
     refine step_append_own (by rfl) (.tmp 33) (.tmp 36) 22 (by rfl) elemString Tryz.underlying22 (v := .slice A3 n3 c3) (l := storyUpto L k) (by rfl) ((of_texts H6.out).ext X7) [mkStr (fshow (fbehind (L.take (k + 1))))] (by rfl) (n3 + 1) (by rw [length_storyUpto]; have := HN3.out; show k + 1 + 1 = n3 + 1; omega) (by rfl)
      (reads_block (x := mkStr (fshow (fbehind (L.take (k + 1))))) (t := 9) (fr := (0, 0)) (heap_alloc_new _ _) (w6.heap.size + 1) (by omega)) (by rw [length_storyUpto]; show (k + 1 + 1) * 16 <= 140737488355328; omega) ?_
     intro A8 c8 w8 hown8 hgrow8 hat8;have h8 := of_append H6.out X7 hown8 hgrow8 hat8;rw [<- storyUpto_succ] at h8;have H8 := lh h8;have hb8 := of_blk h8;clear hown8 hgrow8 hat8 h8 X7 hb6 hHeld hk6 hk7;refine hK.out _ _ trivial (fun hHeld => ?_);clear hK K;try simp only [pS]
     refine tK 9 ?_;try simp only [pS]
     refine tK 10 ?_;try simp only [pS]
     have hc8 := cell_of hb8 1;have hf8 := frozen_of hb8 1;have hb9 := setCell_heap hb8 1 (.slice A8 (n3 + 1) c8);have H9 := lh (of_turn H8.out (w' := w8.setCell ⟨gs, 1, none⟩ (.slice A8 (n3 + 1) c8)) ((Touch.refl (fun k => k = gs) w8).setCell (a := ⟨gs, 1, none⟩) (.inl rfl) _) hb9);clear hb9;refine tC 11 fun K hK => ?_;go_simp;refine hK.out _ _ trivial (fun hHeld => ?_);clear hK K;try simp only [pS]
     refine tD ?_;clear hb8 hc8 hf8 hHeld H8 hk1;generalize w8.setCell ⟨gs, 1, none⟩ (.slice A8 (n3 + 1) c8) = w9 at H9 ⊢;go_wp2
     go_roundw
     case rel => exact ⟨k + 1, n3 + 1, c8, A8, by go_num, by omega, by have := HN3.out; omega, H9.out⟩
     case measure => simp [intOf]; omega
  ·obtain rfl : k = L.length := by omega
   have hb := of_blk HZ.out;have H9 := lh (show StoryAt wr gs L (storyTexts L) from ⟨A1, A3, c1, c3, by rw [length_storyTexts, <- HN3.out]; exact hb, (of_list HZ.out).reads, (of_texts HZ.out).reads, by obtain ⟨_, _, e, hc, _⟩ := (of_list HZ.out).form; cases e; exact hc⟩);clear hb;go_wp2
   go_ret
   refine ⟨gs, rfl, HZ.out.ext, by rw [HLL.out]; exact H9.out, HGS.out, ?_⟩;rw [HLL.out];exact HZ.out.left.map fun F hF => ⟨A1, A3, c1, c3, by rw [<- HN3.out]; exact hF⟩
end Go.Proofs.YtalfbhhldfffkaaGreatDoor
