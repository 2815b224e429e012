/- DrawerC: the reference's Drawer: at. (And behind it: DrawerC2, DrawerC3, DrawerC4, DrawerC5, DrawerC6, DrawerC7.) -/
import Derived.Test.YtalfbhhldfffkaaGreatDoorGFiles
import Derived.Test.YtalfbhhldfffkaaGreatDoorGCheck
set_option maxHeartbeats 8000000
set_option maxRecDepth 100000
namespace Go.Proofs.YtalfbhhldfffkaaGreatDoor
open Go.RowKit
def atInt (d : List FileD) (s : ByteArray) : Int := match dAt d s with | some i => (i : Int) | none => -1
theorem drawer_at (w : World) (B : Nat) (A : Option Addr) (c : Nat) (d : List FileD) (s : ByteArray) (hr : Reads w B A d) (hl : d.length <= 1000) :
 Calls Tryz.prog 73 #[.slice A d.length c, .string s] w fun e w' => e = .returned (.int .i64 (atInt d s)) /\ w' = w := by
 have HR := lh hr;clear hr;go_enter Tryz.func73, Tryz.ntmps73
 go_wp2
 go_loopw [5] (fun i wr => ∃ k : Nat, i = .int .i64 k /\ k <= d.length /\ (∀ (j : Nat) g, j < k -> d[j]? = some g -> g.name ≠ s) /\ wr = w) (fun i _ => d.length - (intOf i).toNat)
 case atStart => exact ⟨0, rfl, Nat.zero_le _, fun j g hj => by omega, rfl⟩
 case round =>
  obtain ⟨k, rfl, hk, hb, rfl⟩ := hrel;have HB := lh hb;clear hb;by_cases hlt : k < d.length
  ·obtain ⟨f, hf⟩ : ∃ f, d[k]? = some f := ⟨d[k], by simp [hlt]⟩
   obtain ⟨ad, rfl, hadb, hat⟩ := HR.out k f hf;have hcn : wr.cell? (ad.add (k * 2)) = some (.string f.name) := hat 0 (.string f.name) rfl;have HF := lh hf;clear hf hat
   by_cases e1 : f.name = s
   ·have he1 : (f.name.toList == s.toList) = true := by rw [e1]; simp
    have HE := lh e1;clear e1;go_wp2
    go_ret
    refine ⟨?_, rfl⟩;rw [show atInt d s = (k : Int) from by unfold atInt; rw [dAt_first HF.out HE.out HB.out]];rfl
   ·have he1 : (f.name.toList == s.toList) = false := bF fun h => e1 (toList_inj h);have HE := lh e1;clear e1;go_wp2
    go_roundw
    case rel =>
     refine ⟨k + 1, by go_num, by omega, fun j g hj hg => ?_, by first | rfl | trivial⟩;by_cases e : j = k
     ·subst e; rw [HF.out] at hg; injection hg with hg; subst hg; exact HE.out
     ·exact HB.out j g (by omega) hg
    case measure => simp [intOf]; omega
  ·obtain rfl : k = d.length := by omega
   go_wp2
   go_ret
   refine ⟨?_, rfl⟩
   rw [show atInt d s = -1 from by
    unfold atInt
    rw [dAt_none' fun f hf => by
     obtain ⟨j, hj, e⟩ := List.getElem_of_mem hf;exact HB.out j f hj (by rw [List.getElem?_eq_getElem hj, e])]]
   rfl
def dNamesUpto (d : List FileD) (i : Nat) : List ByteArray := dNames (d.take i)
theorem dNames_take {d : List FileD} {i : Nat} {f : FileD} (h : d[i]? = some f) : dNamesUpto d (i + 1) = insName f.name (dNamesUpto d i) := by
 unfold dNamesUpto dNames;rw [List.take_add_one, h, List.foldl_append];rfl
def below (out : List ByteArray) (n : ByteArray) : Nat := (out.takeWhile fun m => bless m n).length
theorem insName_eq (out : List ByteArray) (n : ByteArray) : insName n out = out.take (below out n) ++ n :: out.drop (below out n) := by
 unfold insName below;rw [(take_len List.takeWhile_append_dropWhile).1, (take_len List.takeWhile_append_dropWhile).2]
theorem below_of {out : List ByteArray} {n : ByteArray} {p : Nat} (hp : p <= out.length) (h1 : ∀ (j : Nat) s, j < p -> out[j]? = some s -> bless s n = true) (h2 : ∀ s, out[p]? = some s -> bless s n = false) : p = below out n := by
 induction out generalizing p with
 | nil => simp at hp; simp [hp, below]
 | cons x l ih =>
   unfold below;cases p with
   | zero => rw [List.takeWhile_cons, h2 x rfl]; rfl
   | succ p =>
     rw [List.takeWhile_cons, h1 0 x (by omega) rfl];have := ih (p := p) (by simpa using hp) (fun j f hj hf => h1 (j + 1) f (by omega) (by simpa using hf)) (fun f hf => h2 f (by simpa using hf));simp [below] at this ⊢;exact this
theorem insName_at {out : List ByteArray} {n : ByteArray} {j : Nat} (h : j = below out n) : out.take j ++ n :: out.drop j = insName n out := by rw [insName_eq, <- h]
theorem length_insName (n : ByteArray) (out : List ByteArray) : (insName n out).length = out.length + 1 := by rw [(insName_perm n out).length_eq, List.length_cons]
theorem length_dNamesUpto (d : List FileD) (i : Nat) (hi : i <= d.length) : (dNamesUpto d i).length = i := by
 induction i with
 | zero => rfl
 | succ i ih =>
   obtain ⟨f, hf⟩ : ∃ f, d[i]? = some f := ⟨d[i], by simp⟩
   rw [dNames_take hf, length_insName, ih (by omega)]
def DNRel (w : World) (d : List FileD) (out i : Value) (wr : World) : Prop :=
 ∃ (k : Nat) (A1 : Option Addr) (c1 : Nat), i = .int .i64 k /\ k <= d.length /\ out = .slice A1 k c1 /\ Owns wr 9 (.slice A1 k c1) (dNamesUpto d k) /\ Ext w wr /\ ∀ q, (Value.slice A1 k c1).ownBlock = some q -> w.heap.size <= q
def InRel (wr : World) (L : List ByteArray) (n : ByteArray) (k : Nat) (i : Value) (wq : World) : Prop :=
 ∃ (j nq : Nat), i = .int .i64 j /\ j <= k /\ (∀ (t : Nat) s, t < j -> L[t]? = some s -> bless s n = true) /\ wq = wr.drewN nq
theorem drawer_names (w : World) (A : Option Addr) (c : Nat) (d : List FileD) (hr : Reads w w.heap.size A d) (hl : d.length <= 1000) :
 Calls Tryz.prog 72 #[.slice A d.length c] w (NewList w 9 (dNames d)) := by
 have HR := lh hr;clear hr;go_enter Tryz.func72, Tryz.ntmps72
 go_wp2
 go_loopw [3, 4] (fun out i wr => DNRel w d out i wr) (fun _ i _ => d.length - (intOf i).toNat)
 case atStart => exact ⟨0, none, 0, rfl, Nat.zero_le _, rfl, Owns.nil _ _, Touch.refl _ w, fun k hk => by simp [Value.ownBlock] at hk⟩
 case round =>
  obtain ⟨k, A1, c1, rfl, hk, rfl, ho, hx, hf⟩ := hrel;have HO := lh ho;have HX := lh hx;have HB := lh hf;clear ho hx hf;by_cases hlt : k < d.length
  ·obtain ⟨f, hf⟩ : ∃ f, d[k]? = some f := ⟨d[k], by simp [hlt]⟩
   obtain ⟨ad, rfl, hb, hat⟩ := HR.out _ f hf;have hcn : wr.cell? (ad.add (k * 2)) = some (.string f.name) := (hat.of_same (w' := wr) (by rw [show (ad.add (k * Lies.size FileD)).block = ad.block by unfold Addr.add; split <;> rfl]; exact HX.out.block _ hb id)) 0 (.string f.name) rfl;have hadw : (ad.add (k * 2)).block < wr.heap.size := by rw [show (ad.add (k * 2)).block = ad.block by unfold Addr.add; split <;> rfl]; exact Nat.lt_of_lt_of_le hb HX.out.size
   have HF := lh hf;have hk1000 := lh (show k <= 1000 by omega);have hkk : (k : Int) <= 1000 := by omega
   have hc1k : k <= c1 := by obtain ⟨A', c', he, h1, _, _⟩ := HO.out.form; injection he with e1 e2 e3; omega
   clear hf hat hb;go_wp2_with fail
   go_loopw [5] (fun i wq => InRel wr (dNamesUpto d k) f.name k i wq) (fun i _ => k - (intOf i).toNat)
   case atStart => exact ⟨0, 0, rfl, Nat.zero_le _, fun t s ht => by omega, rfl⟩
   case round =>
    obtain ⟨j, mq, rfl, hj, hbl, rfl⟩ := hrel;have HBL := lh hbl;clear hbl;have hj0 : (0 : Int) <= (j : Int) := by omega
    by_cases hjk0 : j < k
    ·obtain ⟨s, hs⟩ : ∃ s, (dNamesUpto d k)[j]? = some s := ⟨(dNamesUpto d k)[j]'(by rw [length_dNamesUpto d k hk]; exact hjk0), by simp⟩
     obtain ⟨ad1, rfl, _, hat1⟩ := HO.out.reads j s hs;have hcs : wr.cell? (ad1.add j) = some (.string s) := by have := hat1 0 (.string s) rfl; rwa [addr_add_add, show j * Lies.size ByteArray + 0 = j from Nat.mul_one j] at this
     have HSJ := lh hs;have hjk' : (j : Int) < (k : Int) := by omega
     clear hs hat1;cases hbb : bless s f.name with
     | true =>
       have hbt : Op.bytesLess s.toList f.name.toList = true := hbb;have HBB := lh hbb;clear hbb;go_wp2_with fail
       go_quiet (fail)
       go_wp2
       go_roundw
       case rel =>
        refine ⟨j + 1, _, by go_num, by omega, fun t u ht hu => ?_, rfl⟩;by_cases e : t = j
        ·subst e; rw [HSJ.out] at hu; injection hu with hu; subst hu; exact HBB.out
        ·exact HBL.out t u (by omega) hu
       case measure => simp [intOf]; omega
     | false =>
       have hbt : Op.bytesLess s.toList f.name.toList = false := hbb;have HP := lh (show j = below (dNamesUpto d k) f.name from below_of (by rw [length_dNamesUpto d k hk]; omega) HBL.out (fun u hu => by rw [HSJ.out] at hu; injection hu with hu; subst hu; exact hbb));obtain ⟨A9, hA9⟩ : ∃ A9, (if c1 = j then some ad1 else some (ad1.add j)) = A9 := ⟨_, rfl⟩
       have HR2 := lh (HO.out.reads.cut j c1 (by rw [length_dNamesUpto d k hk]; exact hc1k) (by show (if c1 = j then some ad1 else some (ad1.add (j * 1))) = A9; rw [Nat.mul_one]; exact hA9));clear hbb;go_wp2_with fail
       go_quiet (fail)
       go_wp2_with fail
       have hk1 : (0 : Int) <= (j : Int) := by omega
       have hk2 : (j : Int) <= (k : Int) := by omega
       have hk3 : (j : Int) <= (c1 : Int) := by omega
       have hk4 : (k : Int) <= (c1 : Int) := by omega
       have hjk : j <= k := by omega
       have hjc : j <= c1 := by omega
       have HTL := lh (show j = ((dNamesUpto d k).take j).length by rw [List.length_take, length_dNamesUpto d k hk]; omega);have HDL := lh (show k - j = ((dNamesUpto d k).drop j).length by rw [List.length_drop, length_dNamesUpto d k hk]);have HR1 := lh (HO.out.reads.take j);have HCK := lh hc1k;have hcn0a := fun (m : Nat) (o : Obj) => (World.cell?_of_block (w := wr.drewN m) (w' := (wr.drewN m).alloc o) (a := ad.add (k * 2)) (Below.heap_alloc (wr.drewN m) o _ hadw)).trans (show (wr.drewN m).cell? (ad.add (k * 2)) = some (.string f.name) from hcn);clear hc1k
       go_region_held3 (fun w' => w'.cell? (ad.add (k * 2)) = some (.string f.name))
        (first | exact hcn4 | exact hcn3 | exact hcn2a _ | exact hcn2 | exact hcn0a _ _ | exact hcn)
        (first
         | (refine step_append_own (by rfl) (.tmp 31) (.tmp 34) 22 (by rfl) elemString Tryz.underlying22 (v := .slice none 0 0) (l := []) (by rfl) (Owns.nil _ _) ((dNamesUpto d k).take j) HTL.out j (by simp) (by rfl) (by first | exact HR1.out.below (fun _ _ => rfl) | exact HR1.out.below (fun q hq => Below.heap_alloc _ _ _ hq)) (by have := HTL.out; have := hk1000.out; simp; omega) ?_
            intro A2 c2 w2 hown2 hgrow2 hat2;simp only [List.nil_append] at hown2;have hx2 : Ext wr w2 := Touch.grown (by first | exact (((Touch.refl _ wr).drewN _).drewN _).drew | exact ((Touch.refl _ wr).drewN _).alloc _ | exact ((Touch.refl _ wr).drewN _) | exact ((((Touch.refl _ wr).drewN _).drewN _).drew).alloc _) hgrow2 (fun q hq => by simp [Value.ownBlock] at hq)
            have hob2 : ∀ q, (Value.slice A2 j c2).ownBlock = some q -> wr.heap.size <= q := fun q hq => by
             rcases hat2 with h1 | h1 <;> rw [h1] at hq <;> simp [Value.ownBlock] at hq
             omega
            have hcn2 : w2.cell? (ad.add (k * 2)) = some (.string f.name) := (World.cell?_of_block (hx2.block _ hadw id)).trans hcn;have hcn2a := fun o => (World.cell?_of_block (w := w2) (w' := w2.alloc o) (a := ad.add (k * 2)) (Below.heap_alloc w2 o _ (Nat.lt_of_lt_of_le hadw hx2.size))).trans hcn2;have hnm2 := fun (b : Nat) (h : _) => World.grownBy.blk (b := b) (o := .cells #[.string f.name] 9 (0, 0)) hgrow2 h (by simp [Value.ownBlock]);have HX2 := lh hx2;have HB2 := lh hob2;have HN2 := lh hnm2;have HO2 := lh hown2;clear hx2 hob2 hgrow2 hat2 hown2 hnm2;try clear hA9)
         | (refine step_append_own (by rfl) (.tmp 35) (.tmp 41) 22 (by rfl) elemString Tryz.underlying22 (v := .slice A2 j c2) (l := (dNamesUpto d k).take j) (by rfl) (by first | exact HO2.out.ext ((Touch.refl _ w2).alloc _) | exact HO2.out) [f.name] (by rfl) (j + 1) (show ((dNamesUpto d k).take j).length + 1 = j + 1 by rw [<- HTL.out]) (by rfl) (by first | exact reads_block (x := f.name) (b := w2.heap.size) (heap_alloc_new w2 _) (w2.heap.size + 1) (by omega) | exact reads_block (x := f.name) (HN2.out _ (heap_alloc_new _ _)) (w2.heap.size + 1) (by have := HX2.out.size; simp; omega)) (by have := HTL.out; have := hk1000.out; simp; omega) ?_
            intro A3 c3 w3 hown3 hgrow3 hat3;have hx3 : Ext wr w3 := Touch.grown (by first | exact HX2.out.alloc _ | exact HX2.out) hgrow3 (fun q hq => .inr (HB2.out q hq))
            have hob3 : ∀ q, (Value.slice A3 (j + 1) c3).ownBlock = some q -> wr.heap.size <= q := fun q hq => by
             rcases hat3 with h1 | h1
             ·exact HB2.out q (h1 ▸ hq)
             ·rw [h1] at hq; injection hq with hq; have := HX2.out.size; (try simp at hq); omega
            have hcn3 : w3.cell? (ad.add (k * 2)) = some (.string f.name) := (World.cell?_of_block (hx3.block _ hadw id)).trans hcn;have HX3 := lh hx3;have HB3 := lh hob3;have HO3 := lh hown3;clear hx3 hob3 hgrow3 hat3 hown3)
         | (refine step_append_own (by rfl) (.tmp 42) (.tmp 45) 22 (by rfl) elemString Tryz.underlying22 (v := .slice A3 (j + 1) c3) (l := (dNamesUpto d k).take j ++ [f.name]) (by rfl) HO3.out ((dNamesUpto d k).drop j) HDL.out (k + 1) (by have := HTL.out; rw [List.length_append, <- this]; simp; omega) (by rfl) (HR2.out.below fun q hq => HX3.out.block q hq id) (by have := length_dNamesUpto d k hk; have := hk1000.out; simp; omega) ?_
            intro A4 c4 w4 hown4 hgrow4 hat4;have hx4 : Ext wr w4 := Touch.grown HX3.out hgrow4 (fun q hq => .inr (HB3.out q hq))
            have hob4 : ∀ q, (Value.slice A4 (k + 1) c4).ownBlock = some q -> wr.heap.size <= q := fun q hq => by
             rcases hat4 with h1 | h1
             ·exact HB3.out q (h1 ▸ hq)
             ·rw [h1] at hq; injection hq with hq; have := HX3.out.size; omega
            have hcn4 : w4.cell? (ad.add (k * 2)) = some (.string f.name) := (World.cell?_of_block (hx4.block _ hadw id)).trans hcn;have HX4 := lh hx4;have HB4 := lh hob4;have HO4 := lh hown4;clear hx4 hob4 hgrow4 hat4 hown4))
       all_goals
        go_wp2
        go_roundw
        case rel =>
         have h4 := HO4.out;rw [List.append_assoc, List.singleton_append, insName_at HP.out, <- dNames_take HF.out] at h4;exact ⟨k + 1, A4, c4, by go_num, by omega, rfl, h4, HX.out.trans HX4.out, fun q hq => Nat.le_trans HX.out.size (HB4.out q hq)⟩
        case measure => simp [intOf]; omega
    ·obtain rfl : j = k := by omega
     have HP := lh (show j = below (dNamesUpto d j) f.name from below_of (by rw [length_dNamesUpto d j hk]; exact Nat.le_refl _) HBL.out (fun u hu => by have := (lG hu).1; rw [length_dNamesUpto d j hk] at this; omega));cases A1 with
     | none =>
       have hnn := HO.out.none_nil;have HR2 := lh (show Reads wr wr.heap.size none ((dNamesUpto d j).drop j) from by rw [hnn, List.drop_nil]; exact Reads.nil _ _ _);have hA9 : True := trivial;clear hnn;go_wp2_with fail
       go_quiet (fail)
       go_wp2_with fail
       have hk1 : (0 : Int) <= (j : Int) := by omega
       have hk2 : (j : Int) <= (j : Int) := by omega
       have hk3 : (j : Int) <= (c1 : Int) := by omega
       have hk4 : (j : Int) <= (c1 : Int) := by omega
       have hjk : j <= j := by omega
       have hjc : j <= c1 := by omega
       have HTL := lh (show j = ((dNamesUpto d j).take j).length by rw [List.length_take, length_dNamesUpto d j hk]; omega);have HDL := lh (show 0 = ((dNamesUpto d j).drop j).length by rw [List.length_drop, length_dNamesUpto d j hk]; omega);have HR1 := lh (HO.out.reads.take j);have HCK := lh hc1k;have hcn0a := fun (m : Nat) (o : Obj) => (World.cell?_of_block (w := wr.drewN m) (w' := (wr.drewN m).alloc o) (a := ad.add (j * 2)) (Below.heap_alloc (wr.drewN m) o _ hadw)).trans (show (wr.drewN m).cell? (ad.add (j * 2)) = some (.string f.name) from hcn);clear hc1k
       go_region_held3 (fun w' => w'.cell? (ad.add (j * 2)) = some (.string f.name))
        (first | exact hcn4 | exact hcn3 | exact hcn2a _ | exact hcn2 | exact hcn0a _ _ | exact hcn)
        (first
         | (refine step_append_own (by rfl) (.tmp 31) (.tmp 34) 22 (by rfl) elemString Tryz.underlying22 (v := .slice none 0 0) (l := []) (by rfl) (Owns.nil _ _) ((dNamesUpto d j).take j) HTL.out j (by simp) (by rfl) (by first | exact HR1.out.below (fun _ _ => rfl) | exact HR1.out.below (fun q hq => Below.heap_alloc _ _ _ hq)) (by have := HTL.out; have := hk1000.out; simp; omega) ?_
            intro A2 c2 w2 hown2 hgrow2 hat2;simp only [List.nil_append] at hown2;have hx2 : Ext wr w2 := Touch.grown (by first | exact (((Touch.refl _ wr).drewN _).drewN _).drew | exact ((Touch.refl _ wr).drewN _).alloc _ | exact ((Touch.refl _ wr).drewN _) | exact ((((Touch.refl _ wr).drewN _).drewN _).drew).alloc _) hgrow2 (fun q hq => by simp [Value.ownBlock] at hq)
            have hob2 : ∀ q, (Value.slice A2 j c2).ownBlock = some q -> wr.heap.size <= q := fun q hq => by
             rcases hat2 with h1 | h1 <;> rw [h1] at hq <;> simp [Value.ownBlock] at hq
             omega
            have hcn2 : w2.cell? (ad.add (j * 2)) = some (.string f.name) := (World.cell?_of_block (hx2.block _ hadw id)).trans hcn;have hcn2a := fun o => (World.cell?_of_block (w := w2) (w' := w2.alloc o) (a := ad.add (j * 2)) (Below.heap_alloc w2 o _ (Nat.lt_of_lt_of_le hadw hx2.size))).trans hcn2;have hnm2 := fun (b : Nat) (h : _) => World.grownBy.blk (b := b) (o := .cells #[.string f.name] 9 (0, 0)) hgrow2 h (by simp [Value.ownBlock]);have HX2 := lh hx2;have HB2 := lh hob2;have HN2 := lh hnm2;have HO2 := lh hown2;clear hx2 hob2 hgrow2 hat2 hown2 hnm2;try clear hA9)
         | (refine step_append_own (by rfl) (.tmp 35) (.tmp 41) 22 (by rfl) elemString Tryz.underlying22 (v := .slice A2 j c2) (l := (dNamesUpto d j).take j) (by rfl) (by first | exact HO2.out.ext ((Touch.refl _ w2).alloc _) | exact HO2.out) [f.name] (by rfl) (j + 1) (show ((dNamesUpto d j).take j).length + 1 = j + 1 by rw [<- HTL.out]) (by rfl) (by first | exact reads_block (x := f.name) (b := w2.heap.size) (heap_alloc_new w2 _) (w2.heap.size + 1) (by omega) | exact reads_block (x := f.name) (HN2.out _ (heap_alloc_new _ _)) (w2.heap.size + 1) (by have := HX2.out.size; simp; omega)) (by have := HTL.out; have := hk1000.out; simp; omega) ?_
            intro A3 c3 w3 hown3 hgrow3 hat3;have hx3 : Ext wr w3 := Touch.grown (by first | exact HX2.out.alloc _ | exact HX2.out) hgrow3 (fun q hq => .inr (HB2.out q hq))
            have hob3 : ∀ q, (Value.slice A3 (j + 1) c3).ownBlock = some q -> wr.heap.size <= q := fun q hq => by
             rcases hat3 with h1 | h1
             ·exact HB2.out q (h1 ▸ hq)
             ·rw [h1] at hq; injection hq with hq; have := HX2.out.size; (try simp at hq); omega
            have hcn3 : w3.cell? (ad.add (j * 2)) = some (.string f.name) := (World.cell?_of_block (hx3.block _ hadw id)).trans hcn;have HX3 := lh hx3;have HB3 := lh hob3;have HO3 := lh hown3;clear hx3 hob3 hgrow3 hat3 hown3)
         | (refine step_append_own (by rfl) (.tmp 42) (.tmp 45) 22 (by rfl) elemString Tryz.underlying22 (v := .slice A3 (j + 1) c3) (l := (dNamesUpto d j).take j ++ [f.name]) (by rfl) HO3.out ((dNamesUpto d j).drop j) HDL.out (j + 1) (show ((dNamesUpto d j).take j ++ [f.name]).length + 0 = j + 1 by have := HTL.out; rw [List.length_append]; show _ + 1 + _ = _; omega) (by rfl) (HR2.out.below fun q hq => HX3.out.block q hq id) (by have := length_dNamesUpto d j hk; have := hk1000.out; simp; omega) ?_
            intro A4 c4 w4 hown4 hgrow4 hat4;have hx4 : Ext wr w4 := Touch.grown HX3.out hgrow4 (fun q hq => .inr (HB3.out q hq))
            have hob4 : ∀ q, (Value.slice A4 (j + 1) c4).ownBlock = some q -> wr.heap.size <= q := fun q hq => by
             rcases hat4 with h1 | h1
             ·exact HB3.out q (h1 ▸ hq)
             ·rw [h1] at hq; injection hq with hq; have := HX3.out.size; omega
            have hcn4 : w4.cell? (ad.add (j * 2)) = some (.string f.name) := (World.cell?_of_block (hx4.block _ hadw id)).trans hcn;have HX4 := lh hx4;have HB4 := lh hob4;have HO4 := lh hown4;clear hx4 hob4 hgrow4 hat4 hown4))
       all_goals
        go_wp2
        go_roundw
        case rel =>
         have h4 := HO4.out;rw [List.append_assoc, List.singleton_append, insName_at HP.out, <- dNames_take HF.out] at h4;exact ⟨j + 1, A4, c4, by go_num, by omega, rfl, h4, HX.out.trans HX4.out, fun q hq => Nat.le_trans HX.out.size (HB4.out q hq)⟩
        case measure => simp [intOf]; omega
     | some ad1 =>
       obtain ⟨A9, hA9⟩ : ∃ A9, (if c1 = j then some ad1 else some (ad1.add j)) = A9 := ⟨_, rfl⟩
       have HR2 := lh (HO.out.reads.cut j c1 (by rw [length_dNamesUpto d j hk]; exact hc1k) (by show (if c1 = j then some ad1 else some (ad1.add (j * 1))) = A9; rw [Nat.mul_one]; exact hA9));go_wp2_with fail
       go_quiet (fail)
       go_wp2_with fail
       have hk1 : (0 : Int) <= (j : Int) := by omega
       have hk2 : (j : Int) <= (j : Int) := by omega
       have hk3 : (j : Int) <= (c1 : Int) := by omega
       have hk4 : (j : Int) <= (c1 : Int) := by omega
       have hjk : j <= j := by omega
       have hjc : j <= c1 := by omega
       have HTL := lh (show j = ((dNamesUpto d j).take j).length by rw [List.length_take, length_dNamesUpto d j hk]; omega);have HDL := lh (show 0 = ((dNamesUpto d j).drop j).length by rw [List.length_drop, length_dNamesUpto d j hk]; omega);have HR1 := lh (HO.out.reads.take j);have HCK := lh hc1k;have hcn0a := fun (m : Nat) (o : Obj) => (World.cell?_of_block (w := wr.drewN m) (w' := (wr.drewN m).alloc o) (a := ad.add (j * 2)) (Below.heap_alloc (wr.drewN m) o _ hadw)).trans (show (wr.drewN m).cell? (ad.add (j * 2)) = some (.string f.name) from hcn);clear hc1k
       go_region_held3 (fun w' => w'.cell? (ad.add (j * 2)) = some (.string f.name))
        (first | exact hcn4 | exact hcn3 | exact hcn2a _ | exact hcn2 | exact hcn0a _ _ | exact hcn)
        (first
         | (refine step_append_own (by rfl) (.tmp 31) (.tmp 34) 22 (by rfl) elemString Tryz.underlying22 (v := .slice none 0 0) (l := []) (by rfl) (Owns.nil _ _) ((dNamesUpto d j).take j) HTL.out j (by simp) (by rfl) (by first | exact HR1.out.below (fun _ _ => rfl) | exact HR1.out.below (fun q hq => Below.heap_alloc _ _ _ hq)) (by have := HTL.out; have := hk1000.out; simp; omega) ?_
            intro A2 c2 w2 hown2 hgrow2 hat2;simp only [List.nil_append] at hown2;have hx2 : Ext wr w2 := Touch.grown (by first | exact (((Touch.refl _ wr).drewN _).drewN _).drew | exact ((Touch.refl _ wr).drewN _).alloc _ | exact ((Touch.refl _ wr).drewN _) | exact ((((Touch.refl _ wr).drewN _).drewN _).drew).alloc _) hgrow2 (fun q hq => by simp [Value.ownBlock] at hq)
            have hob2 : ∀ q, (Value.slice A2 j c2).ownBlock = some q -> wr.heap.size <= q := fun q hq => by
             rcases hat2 with h1 | h1 <;> rw [h1] at hq <;> simp [Value.ownBlock] at hq
             omega
            have hcn2 : w2.cell? (ad.add (j * 2)) = some (.string f.name) := (World.cell?_of_block (hx2.block _ hadw id)).trans hcn;have hcn2a := fun o => (World.cell?_of_block (w := w2) (w' := w2.alloc o) (a := ad.add (j * 2)) (Below.heap_alloc w2 o _ (Nat.lt_of_lt_of_le hadw hx2.size))).trans hcn2;have hnm2 := fun (b : Nat) (h : _) => World.grownBy.blk (b := b) (o := .cells #[.string f.name] 9 (0, 0)) hgrow2 h (by simp [Value.ownBlock]);have HX2 := lh hx2;have HB2 := lh hob2;have HN2 := lh hnm2;have HO2 := lh hown2;clear hx2 hob2 hgrow2 hat2 hown2 hnm2;try clear hA9)
         | (refine step_append_own (by rfl) (.tmp 35) (.tmp 41) 22 (by rfl) elemString Tryz.underlying22 (v := .slice A2 j c2) (l := (dNamesUpto d j).take j) (by rfl) (by first | exact HO2.out.ext ((Touch.refl _ w2).alloc _) | exact HO2.out) [f.name] (by rfl) (j + 1) (show ((dNamesUpto d j).take j).length + 1 = j + 1 by rw [<- HTL.out]) (by rfl) (by first | exact reads_block (x := f.name) (b := w2.heap.size) (heap_alloc_new w2 _) (w2.heap.size + 1) (by omega) | exact reads_block (x := f.name) (HN2.out _ (heap_alloc_new _ _)) (w2.heap.size + 1) (by have := HX2.out.size; simp; omega)) (by have := HTL.out; have := hk1000.out; simp; omega) ?_
            intro A3 c3 w3 hown3 hgrow3 hat3;have hx3 : Ext wr w3 := Touch.grown (by first | exact HX2.out.alloc _ | exact HX2.out) hgrow3 (fun q hq => .inr (HB2.out q hq))
            have hob3 : ∀ q, (Value.slice A3 (j + 1) c3).ownBlock = some q -> wr.heap.size <= q := fun q hq => by
             rcases hat3 with h1 | h1
             ·exact HB2.out q (h1 ▸ hq)
             ·rw [h1] at hq; injection hq with hq; have := HX2.out.size; (try simp at hq); omega
            have hcn3 : w3.cell? (ad.add (j * 2)) = some (.string f.name) := (World.cell?_of_block (hx3.block _ hadw id)).trans hcn;have HX3 := lh hx3;have HB3 := lh hob3;have HO3 := lh hown3;clear hx3 hob3 hgrow3 hat3 hown3)
         | (refine step_append_own (by rfl) (.tmp 42) (.tmp 45) 22 (by rfl) elemString Tryz.underlying22 (v := .slice A3 (j + 1) c3) (l := (dNamesUpto d j).take j ++ [f.name]) (by rfl) HO3.out ((dNamesUpto d j).drop j) HDL.out (j + 1) (show ((dNamesUpto d j).take j ++ [f.name]).length + 0 = j + 1 by have := HTL.out; rw [List.length_append]; show _ + 1 + _ = _; omega) (by rfl) (HR2.out.below fun q hq => HX3.out.block q hq id) (by have := length_dNamesUpto d j hk; have := hk1000.out; simp; omega) ?_
            intro A4 c4 w4 hown4 hgrow4 hat4;have hx4 : Ext wr w4 := Touch.grown HX3.out hgrow4 (fun q hq => .inr (HB3.out q hq))
            have hob4 : ∀ q, (Value.slice A4 (j + 1) c4).ownBlock = some q -> wr.heap.size <= q := fun q hq => by
             rcases hat4 with h1 | h1
             ·exact HB3.out q (h1 ▸ hq)
             ·rw [h1] at hq; injection hq with hq; have := HX3.out.size; omega
            have hcn4 : w4.cell? (ad.add (j * 2)) = some (.string f.name) := (World.cell?_of_block (hx4.block _ hadw id)).trans hcn;have HX4 := lh hx4;have HB4 := lh hob4;have HO4 := lh hown4;clear hx4 hob4 hgrow4 hat4 hown4))
       all_goals
        go_wp2
        go_roundw
        case rel =>
         have h4 := HO4.out;rw [List.append_assoc, List.singleton_append, insName_at HP.out, <- dNames_take HF.out] at h4;exact ⟨j + 1, A4, c4, by go_num, by omega, rfl, h4, HX.out.trans HX4.out, fun q hq => Nat.le_trans HX.out.size (HB4.out q hq)⟩
        case measure => simp [intOf]; omega
  ·obtain rfl : k = d.length := by omega
   have hd0 := HO.out;unfold dNamesUpto at hd0;rw [List.take_length] at hd0;have HD0 := lh hd0;have HLN := lh (show (dNames d).length = d.length by have := length_dNamesUpto d d.length (Nat.le_refl _); unfold dNamesUpto at this; rwa [List.take_length] at this);clear hd0;go_wp2
   go_ret
   exact ⟨A1, c1, by rw [HLN.out]; rfl, by rw [HLN.out]; exact HD0.out, HX.out, by rw [HLN.out]; exact HB.out⟩
structure DOk (d : List FileD) : Prop where
 len : d.length <= 6
 each : ∀ f ∈ d, f.name.size <= 5 /\ f.text.size <= 16
theorem Srt.dok {l d : List FileD} (h : Srt l d) (hl : FOk l) : DOk d :=
 ⟨by rw [<- h.2.length_eq]; exact hl.len, fun f hf => by
  have h1 := hl.each f (h.2.mem_iff.2 hf);exact ⟨okText_le h1.1, h1.2⟩⟩
theorem drawer_at_some (w : World) (B : Nat) (A : Option Addr) (c : Nat) (d : List FileD) (s : ByteArray) (i : Nat) (hr : Reads w B A d) (hl : d.length <= 1000) (hd : dAt d s = some i) :
 Calls Tryz.prog 73 #[.slice A d.length c, .string s] w fun e w' => e = .returned (.int .i64 (i : Int)) /\ w' = w := by
 refine (drawer_at w B A c d s hr hl).mono fun e w' ⟨he, hw⟩ => ⟨?_, hw⟩
 rw [he]; unfold atInt; rw [hd]
theorem drawer_at_none (w : World) (B : Nat) (A : Option Addr) (c : Nat) (d : List FileD) (s : ByteArray) (hr : Reads w B A d) (hl : d.length <= 1000) (hd : dAt d s = none) :
 Calls Tryz.prog 73 #[.slice A d.length c, .string s] w fun e w' => e = .returned (.int .i64 (-1)) /\ w' = w := by
 refine (drawer_at w B A c d s hr hl).mono fun e w' ⟨he, hw⟩ => ⟨?_, hw⟩
 rw [he]; unfold atInt; rw [hd]
def DDPost (w : World) (g : Nat) (F : Nat -> Prop) (d : List FileD) (x : Call) (e : Ending) (w' : World) : Prop :=
 e = .returned (.agg (ddo d x).1.cells) /\ Moved (repHolds g 140 138) w F (ddo d x).2 w'
theorem noText_append (s : ByteArray) : noText ++ s = s := by
 apply toList_inj;rw [ByteArray.toList_eq, ByteArray.toList_eq];simp [noText]
theorem joinSp_snoc (l : List ByteArray) (hl : l ≠ []) (x : ByteArray) : joinSp (l ++ [x]) = joinSp l ++ ⟨#[32]⟩ ++ x := by
 cases l with
 | nil => exact (hl rfl).elim
 | cons y l => simp [joinSp]
theorem joinSp_take_zero {l : List ByteArray} {x : ByteArray} (h : l[0]? = some x) : joinSp (l.take 1) = x := by
 cases l with
 | nil => simp at h
 | cons y l => simp at h; subst h; rfl
theorem joinSp_take_succ {l : List ByteArray} {k : Nat} {x : ByteArray} (h : l[k]? = some x) (hk : 0 < k) : joinSp (l.take (k + 1)) = joinSp (l.take k) ++ ⟨#[32]⟩ ++ x := by
 rw [List.take_add_one, h];refine joinSp_snoc _ (fun e => ?_) x;have hlt := (lG h).1;have := congrArg List.length e;rw [List.length_take, List.length_nil] at this;omega
theorem size_joinSp {l : List ByteArray} {m : Nat} (h : ∀ s ∈ l, s.size <= m) : (joinSp l).size <= l.length * (m + 1) := by
 have key : ∀ (r : List ByteArray) (a : ByteArray), (∀ s ∈ r, s.size <= m) -> (r.foldl (fun s y => s ++ (⟨#[32]⟩ : ByteArray) ++ y) a).size <= a.size + r.length * (m + 1) := by
  intro r;induction r with
  | nil => intro a _; simp
  | cons y r ih =>
    intro a hr;have h1 := ih (a ++ (⟨#[32]⟩ : ByteArray) ++ y) (fun s hs => hr s (by simp [hs]));have h2 := hr y (by simp);have h3 : (a ++ (⟨#[32]⟩ : ByteArray) ++ y).size = a.size + 1 + y.size := by simp [ByteArray.size_append]; rfl
    rw [List.foldl_cons, List.length_cons, Nat.add_mul];omega
 cases l with
 | nil => simp [joinSp, noText, ByteArray.size]
 | cons x l =>
   have h1 := key l x (fun s hs => h s (by simp [hs]));have h2 := h x (by simp);show (l.foldl _ x).size <= _;rw [List.length_cons, Nat.add_mul];omega
theorem dNames_mem {d : List FileD} {s : ByteArray} (h : s ∈ dNames d) : ∃ f ∈ d, f.name = s := by
 have := (foldl_names d [] List.Pairwise.nil).2.mem_iff.1 h;simpa using this
theorem drawer_do_fault (w : World) (g : Nat) (F : Nat -> Prop) (d : List FileD) (x : Call) (n : Int) (h : (repHolds g 140 138).on w F d) (hok : DOk d) (hst : StrCall x) (hn : callCode x = n) (h0 : n ≠ 0) :
 Calls Tryz.prog 117 #[.pointer (some ⟨g, 0, none⟩), .agg x.cells] w (DDPost w g F d x) := by
 have HD := lh (show ddo d x = (ans n, d) from by unfold ddo; rw [hn, if_pos h0]);have HR := lh h;obtain ⟨v, hF, hh⟩ := h;obtain ⟨A, c, rfl, hc, hcm, hr⟩ := hh.own.form;have hlt := hh.lt;have H := lh hh;have HOK := lh hok;have HF := lh hF;have hl6 := hok.len;have hg1 : (w.heap.size = g) = False := by simp; omega
 have hg2 : (w.heap.size + 1 = g) = False := by simp; omega
 have HC0 := lh hn;have HST := lh hst;clear hr hok hh hF hst;have hn1 : (n == 0) = false := bF h0;have hn2 : (n != 0) = true := by simp [h0]
 clear hn h0;go_enter Tryz.func117, Tryz.ntmps117
 go_wp2_with (first
  |
   (go_at_call 64
    refine (ref_fault' _ x _ HC0.out HST.out).mono ?_;rintro e w1 ⟨rfl, hx1⟩;have hbx1 := hx1.blk (b := w.heap.size) (o := .cells x.cells 66 (0, 0)) (by simp only [heap_alloc_past, heap_alloc_at, World.size_alloc, Nat.lt_add_one]) id;have hbr1 := hx1.blk (b := w.heap.size + 1) (o := .cells Answer.zero.cells 101 (0, 0)) (by simp only [heap_alloc_at, World.size_alloc]) id;have ht1 := (((Touch.refl (fun _ => False) w).alloc (.cells x.cells 66)).alloc (.cells Answer.zero.cells 101)).trans hx1;have hbg1 := ht1.blk H.out.cell id;have hc10 := cell_of hbx1 0;have hc11 := cell_of hbx1 1;have hc12 := cell_of hbx1 2;have hc13 := cell_of hbx1 3;have hcg1 := cell_of hbg1 0;have hlb1 : w.heap.size + 2 <= w1.heap.size := by have := hx1.size; simpa using this
    have HE1 := lh (show Ext w w1 from ht1);have HBG1 := lh hbg1;have HRD := lh (Reads.ext H.out.reads ht1);clear hx1 ht1)
  )
 refine ret_cell rfl isAnswer (w.heap.size + 1) (ans n) rfl (setRow_heap _ _ _ _ _ _ hbr1) rfl ?_;unfold DDPost;rw [HD.out];exact ⟨rfl, Rep.moved HR.out (HE1.out.setRow (.inr (by omega)) _)⟩
theorem ddo_list {d : List FileD} {x : Call} (h0 : callCode x = 0) (h6 : x.kind = 6) : ddo d x = (⟨0, joinSp (dNames d)⟩, d) := by
 unfold ddo; rw [if_neg (by simp [h0]), if_pos h6]
theorem ddo_make {d : List FileD} {x : Call} (h0 : callCode x = 0) (h1 : x.kind = 1) : ddo d x = (match dAt d x.name with | some _ => (ans 5, d) | none => if 6 <= d.length then (ans 7, d) else (ans 0, d ++ [⟨x.name, noText⟩])) := by
 unfold ddo; rw [if_neg (by simp [h0]), if_neg (by omega), if_pos h1]; cases dAt d x.name <;> rfl
theorem ddo_lost {d : List FileD} {x : Call} (h0 : callCode x = 0) (h6 : x.kind ≠ 6) (h1 : x.kind ≠ 1) (hd : dAt d x.name = none) : ddo d x = (ans 6, d) := by
 unfold ddo; rw [if_neg (by simp [h0]), if_neg h6, if_neg h1, hd]
theorem ddo_found {d : List FileD} {x : Call} (h0 : callCode x = 0) (h6 : x.kind ≠ 6) (h1 : x.kind ≠ 1) {i : Nat} {f : FileD} (hd : dAt d x.name = some i) (hf : d[i]? = some f) :
 ddo d x = (if x.kind = 5 then (⟨0, f.text⟩, d)
     else if x.kind = 4 then (if 16 < f.text.size + x.text.size then (ans 7, d) else (ans 0, d.set i ⟨f.name, f.text ++ x.text⟩))
     else if x.kind = 3 then (match dAt d x.to_ with
      | some _ => (ans 5, d)
      | none => (ans 0, d.set i ⟨x.to_, f.text⟩))
     else (ans 0, d.eraseIdx i)) := by
 unfold ddo; rw [if_neg (by simp [h0]), if_neg h6, if_neg h1, hd];simp only [hf];cases dAt d x.to_ <;> rfl
theorem drawer_do_list (w : World) (g : Nat) (F : Nat -> Prop) (d : List FileD) (x : Call) (h : (repHolds g 140 138).on w F d) (hok : DOk d) (hst : StrCall x) (hn : callCode x = 0) (h6 : x.kind = 6) :
 Calls Tryz.prog 117 #[.pointer (some ⟨g, 0, none⟩), .agg x.cells] w (DDPost w g F d x) := by
 have HD := lh (ddo_list (d := d) hn h6);have HR := lh h;obtain ⟨v, hF, hh⟩ := h;obtain ⟨A, c, rfl, hc, hcm, hr⟩ := hh.own.form;have hlt := hh.lt;have H := lh hh;have HOK := lh hok;have HF := lh hF;have hl6 := hok.len;have hg1 : (w.heap.size = g) = False := by simp; omega
 have hg2 : (w.heap.size + 1 = g) = False := by simp; omega
 have HC0 := lh hn;have HST := lh hst;clear hr hok hh hF hst;have hk6 : (x.kind == 6) = true := by rw [h6]; rfl
 have hsz : ∀ s ∈ dNames d, s.size <= 5 := fun s hs => by
  obtain ⟨f, hf, rfl⟩ := dNames_mem hs;exact (HOK.out.each f hf).1
 have hlen : (dNames d).length <= 6 := by
  have := length_dNamesUpto d d.length (Nat.le_refl _); unfold dNamesUpto at this; rw [List.take_length] at this; omega
 have HSZ := lh hsz;clear hn h6 hsz;go_enter Tryz.func117, Tryz.ntmps117
 go_wp2_with (first
  |
   (go_at_call 64
    refine (ref_fault' _ x _ HC0.out HST.out).mono ?_;rintro e w1 ⟨rfl, hx1⟩;have hbx1 := hx1.blk (b := w.heap.size) (o := .cells x.cells 66 (0, 0)) (by simp only [heap_alloc_past, heap_alloc_at, World.size_alloc, Nat.lt_add_one]) id;have hbr1 := hx1.blk (b := w.heap.size + 1) (o := .cells Answer.zero.cells 101 (0, 0)) (by simp only [heap_alloc_at, World.size_alloc]) id;have ht1 := (((Touch.refl (fun _ => False) w).alloc (.cells x.cells 66)).alloc (.cells Answer.zero.cells 101)).trans hx1;have hbg1 := ht1.blk H.out.cell id;have hc10 := cell_of hbx1 0;have hc11 := cell_of hbx1 1;have hc12 := cell_of hbx1 2;have hc13 := cell_of hbx1 3;have hcg1 := cell_of hbg1 0;have hlb1 : w.heap.size + 2 <= w1.heap.size := by have := hx1.size; simpa using this
    have HE1 := lh (show Ext w w1 from ht1);have HBG1 := lh hbg1;have HRD := lh (Reads.ext H.out.reads ht1);clear hx1 ht1)
  | (go_at_call 72
     refine (drawer_names w1 A c d HRD.out (by omega)).mono ?_;rintro e w2 ⟨A2, c2, he2, ho2, hx2, hf2⟩;subst he2;have hbr2 := hx2.blk (b := w.heap.size + 1) hbr1 id;have hlw2 := hx2.size;have HO2 := lh ho2;have HX2 := lh hx2;clear ho2 hx2 hf2))
 generalize dNames d = L at *;go_loop [6, 8] (fun s i => ∃ k : Nat, i = .int .i64 k /\ k <= L.length /\ s = .string (joinSp (L.take k))) (fun _ i => L.length - (intOf i).toNat)
 case atStart => exact ⟨0, rfl, Nat.zero_le _, rfl⟩
 case round =>
  obtain ⟨k, rfl, hk, rfl⟩ := hrel;by_cases hlt2 : k < L.length
  ·obtain ⟨s, hs⟩ : ∃ s, L[k]? = some s := ⟨L[k], by simp [hlt2]⟩
   obtain ⟨ad1, rfl, _, hat1⟩ := HO2.out.reads k s hs;have hcs : w2.cell? (ad1.add k) = some (.string s) := by have := hat1 0 (.string s) rfl; rwa [addr_add_add, show k * Lies.size ByteArray + 0 = k from Nat.mul_one k] at this
   have hss : s.size <= 5 := HSZ.out s (List.mem_of_getElem? hs)
   have hjs : (joinSp (L.take k)).size <= 36 := by
    have h1 := size_joinSp (l := L.take k) (m := 5) (fun s hs => HSZ.out s (List.mem_of_mem_take hs));rw [List.length_take] at h1;have h2 : min k L.length * (5 + 1) <= 6 * 6 := Nat.mul_le_mul (by omega) (Nat.le_refl _);omega
   have HS := lh hs;clear hs hat1;obtain ⟨J, hJ⟩ : ∃ J, joinSp (L.take k) = J := ⟨_, rfl⟩
   have HJ0 := lh hJ;rw [hJ] at hjs ⊢;by_cases hk0 : k = 0
   ·have HJ := lh (show J ++ s = joinSp (L.take (k + 1)) by
     subst hk0;rw [<- HJ0.out, joinSp_take_zero HS.out];exact noText_append s)
    have hk1 : decide ((0 : Int) < (k : Int)) = false := by simp [hk0]
    have hk1n : ¬ (0 < k) := by omega
    have hk1d : decide (0 < k) = false := by simp [hk0]
    clear hk0 hJ;go_wp2
    go_round
    case rel => exact ⟨k + 1, by go_num, by omega, by rw [<- HJ.out]⟩
    case measure => simp [intOf]; omega
   ·have hk1 : (0 : Int) < (k : Int) := by omega
    have hs1 : (J ++ (⟨#[32]⟩ : ByteArray)).size <= 37 := by rw [ByteArray.size_append]; show _ + 1 <= 37; omega
    have HJ := lh (joinSp_take_succ HS.out (by omega));clear hJ;go_wp2
    go_round
    case rel => exact ⟨k + 1, by go_num, by omega, by rw [HJ.out, HJ0.out]⟩
    case measure => simp [intOf]; omega
  ·obtain rfl : k = L.length := by omega
   go_wp2
   refine ret_cell rfl isAnswer (w.heap.size + 1) (⟨0, joinSp L⟩ : Answer) rfl (setRow_heap _ _ _ _ _ _ hbr2) rfl ?_;unfold DDPost;rw [HD.out];exact ⟨rfl, Rep.moved HR.out ((HE1.out.trans HX2.out).setRow (.inr (by omega)) _)⟩
theorem drawer_do_lost (w : World) (g : Nat) (F : Nat -> Prop) (d : List FileD) (x : Call) (h : (repHolds g 140 138).on w F d) (hok : DOk d) (hst : StrCall x) (hn : callCode x = 0) (h6 : x.kind ≠ 6) (h1 : x.kind ≠ 1) (hd : dAt d x.name = none) :
 Calls Tryz.prog 117 #[.pointer (some ⟨g, 0, none⟩), .agg x.cells] w (DDPost w g F d x) := by
 have HD := lh (ddo_lost (d := d) hn h6 h1 hd);have HR := lh h;obtain ⟨v, hF, hh⟩ := h;obtain ⟨A, c, rfl, hc, hcm, hr⟩ := hh.own.form;have hlt := hh.lt;have H := lh hh;have HOK := lh hok;have HF := lh hF;have hl6 := hok.len;have hg1 : (w.heap.size = g) = False := by simp; omega
 have hg2 : (w.heap.size + 1 = g) = False := by simp; omega
 have HC0 := lh hn;have HST := lh hst;clear hr hok hh hF hst;have HDI := lh hd;have hk6 : (x.kind == 6) = false := bF (by omega);have hk1 : (x.kind == 1) = false := bF (by omega);clear hn h6 h1 hd;go_enter Tryz.func117, Tryz.ntmps117
 go_wp2_with (first
  |
   (go_at_call 64
    refine (ref_fault' _ x _ HC0.out HST.out).mono ?_;rintro e w1 ⟨rfl, hx1⟩;have hbx1 := hx1.blk (b := w.heap.size) (o := .cells x.cells 66 (0, 0)) (by simp only [heap_alloc_past, heap_alloc_at, World.size_alloc, Nat.lt_add_one]) id;have hbr1 := hx1.blk (b := w.heap.size + 1) (o := .cells Answer.zero.cells 101 (0, 0)) (by simp only [heap_alloc_at, World.size_alloc]) id;have ht1 := (((Touch.refl (fun _ => False) w).alloc (.cells x.cells 66)).alloc (.cells Answer.zero.cells 101)).trans hx1;have hbg1 := ht1.blk H.out.cell id;have hc10 := cell_of hbx1 0;have hc11 := cell_of hbx1 1;have hc12 := cell_of hbx1 2;have hc13 := cell_of hbx1 3;have hcg1 := cell_of hbg1 0;have hlb1 : w.heap.size + 2 <= w1.heap.size := by have := hx1.size; simpa using this
    have HE1 := lh (show Ext w w1 from ht1);have HBG1 := lh hbg1;have HRD := lh (Reads.ext H.out.reads ht1);clear hx1 ht1)
  )
 go_quiet ((go_at_call 73; exact Calls.quiet_of_same (drawer_at_none _ w1.heap.size A c d x.name (HRD.out.below fun _ _ => rfl) (by omega) HDI.out)))
 go_wp2
 refine ret_cell rfl isAnswer (w.heap.size + 1) (ans 6) rfl (setRow_heap _ _ _ _ _ _ hbr1) rfl ?_;unfold DDPost;rw [HD.out];exact ⟨rfl, Rep.moved HR.out ((HE1.out.drewN _).setRow (.inr (by omega)) _)⟩
theorem drawer_do_there (w : World) (g : Nat) (F : Nat -> Prop) (d : List FileD) (x : Call) (h : (repHolds g 140 138).on w F d) (hok : DOk d) (hst : StrCall x) (hn : callCode x = 0) (h1 : x.kind = 1) (i : Nat) (hd : dAt d x.name = some i) :
 Calls Tryz.prog 117 #[.pointer (some ⟨g, 0, none⟩), .agg x.cells] w (DDPost w g F d x) := by
 have HD := lh (show ddo d x = (ans 5, d) by rw [ddo_make hn h1, hd]);have HR := lh h;obtain ⟨v, hF, hh⟩ := h;obtain ⟨A, c, rfl, hc, hcm, hr⟩ := hh.own.form;have hlt := hh.lt;have H := lh hh;have HOK := lh hok;have HF := lh hF;have hl6 := hok.len;have hg1 : (w.heap.size = g) = False := by simp; omega
 have hg2 : (w.heap.size + 1 = g) = False := by simp; omega
 have HC0 := lh hn;have HST := lh hst;clear hr hok hh hF hst;have HDI := lh hd;have hk6 : (x.kind == 6) = false := bF (by omega);have hk1 : (x.kind == 1) = true := by rw [h1]; rfl
 have hi0 : (0 : Int) <= (i : Int) := by omega
 clear hn h1 hd;go_enter Tryz.func117, Tryz.ntmps117
 go_wp2_with (first
  |
   (go_at_call 64
    refine (ref_fault' _ x _ HC0.out HST.out).mono ?_;rintro e w1 ⟨rfl, hx1⟩;have hbx1 := hx1.blk (b := w.heap.size) (o := .cells x.cells 66 (0, 0)) (by simp only [heap_alloc_past, heap_alloc_at, World.size_alloc, Nat.lt_add_one]) id;have hbr1 := hx1.blk (b := w.heap.size + 1) (o := .cells Answer.zero.cells 101 (0, 0)) (by simp only [heap_alloc_at, World.size_alloc]) id;have ht1 := (((Touch.refl (fun _ => False) w).alloc (.cells x.cells 66)).alloc (.cells Answer.zero.cells 101)).trans hx1;have hbg1 := ht1.blk H.out.cell id;have hc10 := cell_of hbx1 0;have hc11 := cell_of hbx1 1;have hc12 := cell_of hbx1 2;have hc13 := cell_of hbx1 3;have hcg1 := cell_of hbg1 0;have hlb1 : w.heap.size + 2 <= w1.heap.size := by have := hx1.size; simpa using this
    have HE1 := lh (show Ext w w1 from ht1);have HBG1 := lh hbg1;have HRD := lh (Reads.ext H.out.reads ht1);clear hx1 ht1)
  )
 go_quiet ((go_at_call 73; exact Calls.quiet_of_same (drawer_at_some _ w1.heap.size A c d x.name i (HRD.out.below fun _ _ => rfl) (by omega) HDI.out)))
 go_wp2
 refine ret_cell rfl isAnswer (w.heap.size + 1) (ans 5) rfl (setRow_heap _ _ _ _ _ _ hbr1) rfl ?_;unfold DDPost;rw [HD.out];exact ⟨rfl, Rep.moved HR.out ((HE1.out.drewN _).setRow (.inr (by omega)) _)⟩
theorem drawer_do_full (w : World) (g : Nat) (F : Nat -> Prop) (d : List FileD) (x : Call) (h : (repHolds g 140 138).on w F d) (hok : DOk d) (hst : StrCall x) (hn : callCode x = 0) (h1 : x.kind = 1) (hd : dAt d x.name = none) (hfull : 6 <= d.length) :
 Calls Tryz.prog 117 #[.pointer (some ⟨g, 0, none⟩), .agg x.cells] w (DDPost w g F d x) := by
 have HD := lh (show ddo d x = (ans 7, d) by rw [ddo_make hn h1, hd]; simp only [if_pos hfull]);have HR := lh h;obtain ⟨v, hF, hh⟩ := h;obtain ⟨A, c, rfl, hc, hcm, hr⟩ := hh.own.form;have hlt := hh.lt;have H := lh hh;have HOK := lh hok;have HF := lh hF;have hl6 := hok.len;have hg1 : (w.heap.size = g) = False := by simp; omega
 have hg2 : (w.heap.size + 1 = g) = False := by simp; omega
 have HC0 := lh hn;have HST := lh hst;clear hr hok hh hF hst;have HDI := lh hd;have hk6 : (x.kind == 6) = false := bF (by omega);have hk1 : (x.kind == 1) = true := by rw [h1]; rfl
 clear hn h1 hd;go_enter Tryz.func117, Tryz.ntmps117
 go_wp2_with (first
  |
   (go_at_call 64
    refine (ref_fault' _ x _ HC0.out HST.out).mono ?_;rintro e w1 ⟨rfl, hx1⟩;have hbx1 := hx1.blk (b := w.heap.size) (o := .cells x.cells 66 (0, 0)) (by simp only [heap_alloc_past, heap_alloc_at, World.size_alloc, Nat.lt_add_one]) id;have hbr1 := hx1.blk (b := w.heap.size + 1) (o := .cells Answer.zero.cells 101 (0, 0)) (by simp only [heap_alloc_at, World.size_alloc]) id;have ht1 := (((Touch.refl (fun _ => False) w).alloc (.cells x.cells 66)).alloc (.cells Answer.zero.cells 101)).trans hx1;have hbg1 := ht1.blk H.out.cell id;have hc10 := cell_of hbx1 0;have hc11 := cell_of hbx1 1;have hc12 := cell_of hbx1 2;have hc13 := cell_of hbx1 3;have hcg1 := cell_of hbg1 0;have hlb1 : w.heap.size + 2 <= w1.heap.size := by have := hx1.size; simpa using this
    have HE1 := lh (show Ext w w1 from ht1);have HBG1 := lh hbg1;have HRD := lh (Reads.ext H.out.reads ht1);clear hx1 ht1)
  )
 go_quiet ((go_at_call 73; exact Calls.quiet_of_same (drawer_at_none _ w1.heap.size A c d x.name (HRD.out.below fun _ _ => rfl) (by omega) HDI.out)))
 go_wp2
 refine ret_cell rfl isAnswer (w.heap.size + 1) (ans 7) rfl (setRow_heap _ _ _ _ _ _ hbr1) rfl ?_;unfold DDPost;rw [HD.out];exact ⟨rfl, Rep.moved HR.out ((HE1.out.drewN _).setRow (.inr (by omega)) _)⟩
theorem quiet_more {P : Program} {f : FuncId} {args : Array Value} {w : World} {a n : Nat} {v : Value} (h : Calls P f args (w.drewN (a + n)) fun e w' => e = .returned v /\ w' = w.drewN (a + n)) :
 Calls P f args (w.drewN (a + n)) fun e w'' => e = .returned v /\ ∃ m, w'' = w.drewN (a + m) := h.mono fun _ _ ⟨he, hm⟩ => ⟨he, n, hm⟩
theorem Holds.movedBy {α : Type} [Lies α] {w w' : World} {F : Nat -> Prop} {g : Nat} {T E : TypeId} {v v' : Value} {_l l' : List α} (hF : ∀ k, F k ↔ foot g v k) (h' : Holds w' g T E v' l') (ht : Touch (foot g v) w w') (hf : ∀ k, v'.ownBlock = some k -> v.ownBlock = some k \/ w.heap.size <= k) :
 Moved (repHolds g T E) w F l' w' := by
 have e : F = foot g v := funext fun k => propext (hF k);subst e;refine ⟨foot g v', ⟨v', fun _ => Iff.rfl, h'⟩, ht, fun k hk => ?_⟩;rcases hk with rfl | hk
 ·exact .inl (.inl rfl)
 ·rcases hf k hk with h | h
  ·exact .inl (.inr h)
  ·exact .inr h
theorem drawer_do_read (w : World) (g : Nat) (F : Nat -> Prop) (d : List FileD) (x : Call) (h : (repHolds g 140 138).on w F d) (hok : DOk d) (hst : StrCall x) (hn : callCode x = 0) (hkk : x.kind = 5) (i : Nat) (f : FileD) (hd : dAt d x.name = some i) (hf : d[i]? = some f) :
 Calls Tryz.prog 117 #[.pointer (some ⟨g, 0, none⟩), .agg x.cells] w (DDPost w g F d x) := by
 have HD := lh (show ddo d x = (⟨0, f.text⟩, d) by rw [ddo_found hn (by omega) (by omega) hd hf, if_pos hkk]);have HR := lh h;obtain ⟨v, hF, hh⟩ := h;obtain ⟨A, c, rfl, hc, hcm, hr⟩ := hh.own.form;have hlt := hh.lt;have H := lh hh;have HOK := lh hok;have HF := lh hF;have hl6 := hok.len;have hg1 : (w.heap.size = g) = False := by simp; omega
 have hg2 : (w.heap.size + 1 = g) = False := by simp; omega
 have HC0 := lh hn;have HST := lh hst;clear hr hok hh hF hst;have HDI := lh hd;have hk6 : (x.kind == 6) = false := bF (by omega);have hk1 : (x.kind == 1) = false := bF (by omega);have hil : i < d.length := (lG hf).1;obtain ⟨ad, rfl, hadb, hat⟩ := H.out.own.reads i f hf;have HFI := lh hf;have HAT := lh (show At w (ad.add (i * 2)) f from hat);have HQ := lh H.out.own.some_form;have HNE := lh (H.out.own.elem H.out.cell (by decide));have hi0 : (0 : Int) <= (i : Int) := by omega
 have hi1 : (i : Int) < (d.length : Int) := by omega
 have hi2 : (i : Int) <= 1000 := by omega
 clear hd hf hat
 have hk5 : (x.kind == 5) = true := by rw [hkk]; rfl
 clear hn hkk;go_enter Tryz.func117, Tryz.ntmps117
 go_wp2_with (first
  |
   (go_at_call 64
    refine (ref_fault' _ x _ HC0.out HST.out).mono ?_;rintro e w1 ⟨rfl, hx1⟩;have hbx1 := hx1.blk (b := w.heap.size) (o := .cells x.cells 66 (0, 0)) (by simp only [heap_alloc_past, heap_alloc_at, World.size_alloc, Nat.lt_add_one]) id;have hbr1 := hx1.blk (b := w.heap.size + 1) (o := .cells Answer.zero.cells 101 (0, 0)) (by simp only [heap_alloc_at, World.size_alloc]) id;have ht1 := (((Touch.refl (fun _ => False) w).alloc (.cells x.cells 66)).alloc (.cells Answer.zero.cells 101)).trans hx1;have hbg1 := ht1.blk H.out.cell id;have hc10 := cell_of hbx1 0;have hc11 := cell_of hbx1 1;have hc12 := cell_of hbx1 2;have hc13 := cell_of hbx1 3;have hcg1 := cell_of hbg1 0;have hlb1 : w.heap.size + 2 <= w1.heap.size := by have := hx1.size; simpa using this
    have HE1 := lh (show Ext w w1 from ht1);have HBG1 := lh hbg1;have HRD := lh (Reads.ext H.out.reads ht1);clear hx1 ht1)
  )
 have hblk : (ad.add (i * 2)).block = ad.block := by unfold Addr.add; split <;> rfl
 have hbl1 : ad.block < w1.heap.size := by omega
 have HA1 := lh (show At w1 (ad.add (i * 2)) f from HAT.out.of_same (by rw [hblk]; exact HE1.out.block _ hadb id));have hcn : w1.cell? (ad.add (i * 2)) = some (.string f.name) := HA1.out 0 (.string f.name) rfl
 have hct : w1.cell? ⟨ad.block, (ad.add (i * 2)).off + 1, none⟩ = some (.string f.text) := by
  have hadd1 : ∀ a : Addr, a.add 1 = ⟨a.block, a.off + 1, none⟩ := fun a => by simp [Addr.add]
  have h2 := HA1.out 1 (.string f.text) rfl;rwa [hadd1, hblk] at h2
 have hfz : ∀ o, w1.frozen? ⟨ad.block, o, none⟩ = false := fun o => by
  rcases (H.out.ext HE1.out).own.2 with ⟨hv, _⟩ | ⟨g', cap, cur, hv, _, hg, _⟩
  ·cases hv
  ·injection hv with e1;injection e1 with e1;have : ad.block = g' := by rw [e1]
   rw [this];exact frozen_of hg _
 have hft := hfz ((ad.add (i * 2)).off + 1);go_quiet ((go_at_call 73; exact Calls.quiet_of_same (drawer_at_some _ w1.heap.size _ c d x.name i (HRD.out.below fun _ _ => rfl) (by omega) HDI.out)))
 go_wp2
 refine ret_cell rfl isAnswer (w.heap.size + 1) ((⟨0, f.text⟩ : Answer)) rfl (setRow_heap _ _ _ _ _ _ hbr1) rfl ?_;unfold DDPost;rw [HD.out];exact ⟨rfl, Rep.moved HR.out ((HE1.out.drewN _).setRow (.inr (by omega)) _)⟩
theorem drawer_do_long (w : World) (g : Nat) (F : Nat -> Prop) (d : List FileD) (x : Call) (h : (repHolds g 140 138).on w F d) (hok : DOk d) (hst : StrCall x) (hn : callCode x = 0) (hkk : x.kind = 4) (i : Nat) (f : FileD) (hd : dAt d x.name = some i) (hf : d[i]? = some f) (hsz : f.text.size <= 16) (hxs : x.text.size <= 8) (hlong : 16 < f.text.size + x.text.size) :
 Calls Tryz.prog 117 #[.pointer (some ⟨g, 0, none⟩), .agg x.cells] w (DDPost w g F d x) := by
 have HD := lh (show ddo d x = (ans 7, d) by rw [ddo_found hn (by omega) (by omega) hd hf, if_neg (by omega), if_pos hkk, if_pos hlong]);have HR := lh h;obtain ⟨v, hF, hh⟩ := h;obtain ⟨A, c, rfl, hc, hcm, hr⟩ := hh.own.form;have hlt := hh.lt;have H := lh hh;have HOK := lh hok;have HF := lh hF;have hl6 := hok.len;have hg1 : (w.heap.size = g) = False := by simp; omega
 have hg2 : (w.heap.size + 1 = g) = False := by simp; omega
 have HC0 := lh hn;have HST := lh hst;clear hr hok hh hF hst;have HDI := lh hd;have hk6 : (x.kind == 6) = false := bF (by omega);have hk1 : (x.kind == 1) = false := bF (by omega);have hil : i < d.length := (lG hf).1;obtain ⟨ad, rfl, hadb, hat⟩ := H.out.own.reads i f hf;have HFI := lh hf;have HAT := lh (show At w (ad.add (i * 2)) f from hat);have HQ := lh H.out.own.some_form;have HNE := lh (H.out.own.elem H.out.cell (by decide));have hi0 : (0 : Int) <= (i : Int) := by omega
 have hi1 : (i : Int) < (d.length : Int) := by omega
 have hi2 : (i : Int) <= 1000 := by omega
 clear hd hf hat
 have hk5 : (x.kind == 5) = false := by rw [hkk]; rfl
 have hk4 : (x.kind == 4) = true := by rw [hkk]; rfl
 clear hn hkk;have hlong' : (16 : Int) < (f.text.size : Int) + (x.text.size : Int) := by omega
 have hs1 : (0 : Int) <= (f.text.size : Int) + (x.text.size : Int) := by omega
 have hs2 : (f.text.size : Int) + (x.text.size : Int) <= 24 := by omega
 have hsw : IntKind.i64.wrap ((f.text.size : Int) + (x.text.size : Int)) = (f.text.size : Int) + (x.text.size : Int) := by rw [IntKind.wrap_i64]; omega
 go_enter Tryz.func117, Tryz.ntmps117
 go_wp2_with (first
  |
   (go_at_call 64
    refine (ref_fault' _ x _ HC0.out HST.out).mono ?_;rintro e w1 ⟨rfl, hx1⟩;have hbx1 := hx1.blk (b := w.heap.size) (o := .cells x.cells 66 (0, 0)) (by simp only [heap_alloc_past, heap_alloc_at, World.size_alloc, Nat.lt_add_one]) id;have hbr1 := hx1.blk (b := w.heap.size + 1) (o := .cells Answer.zero.cells 101 (0, 0)) (by simp only [heap_alloc_at, World.size_alloc]) id;have ht1 := (((Touch.refl (fun _ => False) w).alloc (.cells x.cells 66)).alloc (.cells Answer.zero.cells 101)).trans hx1;have hbg1 := ht1.blk H.out.cell id;have hc10 := cell_of hbx1 0;have hc11 := cell_of hbx1 1;have hc12 := cell_of hbx1 2;have hc13 := cell_of hbx1 3;have hcg1 := cell_of hbg1 0;have hlb1 : w.heap.size + 2 <= w1.heap.size := by have := hx1.size; simpa using this
    have HE1 := lh (show Ext w w1 from ht1);have HBG1 := lh hbg1;have HRD := lh (Reads.ext H.out.reads ht1);clear hx1 ht1)
  )
 have hblk : (ad.add (i * 2)).block = ad.block := by unfold Addr.add; split <;> rfl
 have hbl1 : ad.block < w1.heap.size := by omega
 have HA1 := lh (show At w1 (ad.add (i * 2)) f from HAT.out.of_same (by rw [hblk]; exact HE1.out.block _ hadb id));have hcn : w1.cell? (ad.add (i * 2)) = some (.string f.name) := HA1.out 0 (.string f.name) rfl
 have hct : w1.cell? ⟨ad.block, (ad.add (i * 2)).off + 1, none⟩ = some (.string f.text) := by
  have hadd1 : ∀ a : Addr, a.add 1 = ⟨a.block, a.off + 1, none⟩ := fun a => by simp [Addr.add]
  have h2 := HA1.out 1 (.string f.text) rfl;rwa [hadd1, hblk] at h2
 have hfz : ∀ o, w1.frozen? ⟨ad.block, o, none⟩ = false := fun o => by
  rcases (H.out.ext HE1.out).own.2 with ⟨hv, _⟩ | ⟨g', cap, cur, hv, _, hg, _⟩
  ·cases hv
  ·injection hv with e1;injection e1 with e1;have : ad.block = g' := by rw [e1]
   rw [this];exact frozen_of hg _
 have hft := hfz ((ad.add (i * 2)).off + 1);go_quiet ((go_at_call 73; exact Calls.quiet_of_same (drawer_at_some _ w1.heap.size _ c d x.name i (HRD.out.below fun _ _ => rfl) (by omega) HDI.out)))
 go_wp2_with fail
 go_quiet (fail)
 go_wp2
 refine ret_cell rfl isAnswer (w.heap.size + 1) (ans 7) rfl (setRow_heap _ _ _ _ _ _ hbr1) rfl ?_;unfold DDPost;rw [HD.out];exact ⟨rfl, Rep.moved HR.out ((HE1.out.drewN _).setRow (.inr (by omega)) _)⟩
theorem drawer_do_taken (w : World) (g : Nat) (F : Nat -> Prop) (d : List FileD) (x : Call) (h : (repHolds g 140 138).on w F d) (hok : DOk d) (hst : StrCall x) (hn : callCode x = 0) (hkk : x.kind = 3) (i j : Nat) (f : FileD) (hd : dAt d x.name = some i) (hf : d[i]? = some f) (hto : dAt d x.to_ = some j) :
 Calls Tryz.prog 117 #[.pointer (some ⟨g, 0, none⟩), .agg x.cells] w (DDPost w g F d x) := by
 have HD := lh (show ddo d x = (ans 5, d) by rw [ddo_found hn (by omega) (by omega) hd hf, if_neg (by omega), if_neg (by omega), if_pos hkk, hto]);have HR := lh h;obtain ⟨v, hF, hh⟩ := h;obtain ⟨A, c, rfl, hc, hcm, hr⟩ := hh.own.form;have hlt := hh.lt;have H := lh hh;have HOK := lh hok;have HF := lh hF;have hl6 := hok.len;have hg1 : (w.heap.size = g) = False := by simp; omega
 have hg2 : (w.heap.size + 1 = g) = False := by simp; omega
 have HC0 := lh hn;have HST := lh hst;clear hr hok hh hF hst;have HDI := lh hd;have hk6 : (x.kind == 6) = false := bF (by omega);have hk1 : (x.kind == 1) = false := bF (by omega);have hil : i < d.length := (lG hf).1;obtain ⟨ad, rfl, hadb, hat⟩ := H.out.own.reads i f hf;have HFI := lh hf;have HAT := lh (show At w (ad.add (i * 2)) f from hat);have HQ := lh H.out.own.some_form;have HNE := lh (H.out.own.elem H.out.cell (by decide));have hi0 : (0 : Int) <= (i : Int) := by omega
 have hi1 : (i : Int) < (d.length : Int) := by omega
 have hi2 : (i : Int) <= 1000 := by omega
 clear hd hf hat
 have hk5 : (x.kind == 5) = false := by rw [hkk]; rfl
 have hk4 : (x.kind == 4) = false := by rw [hkk]; rfl
 have hk3 : (x.kind == 3) = true := by rw [hkk]; rfl
 clear hn hkk;have HTO := lh hto;have hj0 : (0 : Int) <= (j : Int) := by omega
 clear hto;go_enter Tryz.func117, Tryz.ntmps117
 go_wp2_with (first
  |
   (go_at_call 64
    refine (ref_fault' _ x _ HC0.out HST.out).mono ?_;rintro e w1 ⟨rfl, hx1⟩;have hbx1 := hx1.blk (b := w.heap.size) (o := .cells x.cells 66 (0, 0)) (by simp only [heap_alloc_past, heap_alloc_at, World.size_alloc, Nat.lt_add_one]) id;have hbr1 := hx1.blk (b := w.heap.size + 1) (o := .cells Answer.zero.cells 101 (0, 0)) (by simp only [heap_alloc_at, World.size_alloc]) id;have ht1 := (((Touch.refl (fun _ => False) w).alloc (.cells x.cells 66)).alloc (.cells Answer.zero.cells 101)).trans hx1;have hbg1 := ht1.blk H.out.cell id;have hc10 := cell_of hbx1 0;have hc11 := cell_of hbx1 1;have hc12 := cell_of hbx1 2;have hc13 := cell_of hbx1 3;have hcg1 := cell_of hbg1 0;have hlb1 : w.heap.size + 2 <= w1.heap.size := by have := hx1.size; simpa using this
    have HE1 := lh (show Ext w w1 from ht1);have HBG1 := lh hbg1;have HRD := lh (Reads.ext H.out.reads ht1);clear hx1 ht1)
  )
 have hblk : (ad.add (i * 2)).block = ad.block := by unfold Addr.add; split <;> rfl
 have hbl1 : ad.block < w1.heap.size := by omega
 have HA1 := lh (show At w1 (ad.add (i * 2)) f from HAT.out.of_same (by rw [hblk]; exact HE1.out.block _ hadb id));have hcn : w1.cell? (ad.add (i * 2)) = some (.string f.name) := HA1.out 0 (.string f.name) rfl
 have hct : w1.cell? ⟨ad.block, (ad.add (i * 2)).off + 1, none⟩ = some (.string f.text) := by
  have hadd1 : ∀ a : Addr, a.add 1 = ⟨a.block, a.off + 1, none⟩ := fun a => by simp [Addr.add]
  have h2 := HA1.out 1 (.string f.text) rfl;rwa [hadd1, hblk] at h2
 have hfz : ∀ o, w1.frozen? ⟨ad.block, o, none⟩ = false := fun o => by
  rcases (H.out.ext HE1.out).own.2 with ⟨hv, _⟩ | ⟨g', cap, cur, hv, _, hg, _⟩
  ·cases hv
  ·injection hv with e1;injection e1 with e1;have : ad.block = g' := by rw [e1]
   rw [this];exact frozen_of hg _
 have hft := hfz ((ad.add (i * 2)).off + 1);go_quiet ((go_at_call 73; exact Calls.quiet_of_same (drawer_at_some _ w1.heap.size _ c d x.name i (HRD.out.below fun _ _ => rfl) (by omega) HDI.out)))
 go_wp2_with fail
 go_quiet ((go_at_call 73; exact quiet_more (drawer_at_some _ w1.heap.size _ c d x.to_ j (HRD.out.below fun _ _ => rfl) (by omega) HTO.out)))
 go_wp2
 refine ret_cell rfl isAnswer (w.heap.size + 1) (ans 5) rfl (setRow_heap _ _ _ _ _ _ hbr1) rfl ?_;unfold DDPost;rw [HD.out];exact ⟨rfl, Rep.moved HR.out ((HE1.out.drewN _).setRow (.inr (by omega)) _)⟩
theorem flat_name (l : List FileD) (i : Nat) (f : FileD) (hf : l[i]? = some f) (t : ByteArray) : (flat l).set (i * 2) (.string t) = flat (l.set i ⟨t, f.text⟩) := by
 induction l generalizing i with
 | nil => simp at hf
 | cons x l ih =>
   rw [flat_cons];cases i with
   | zero =>
     simp at hf; subst hf;rw [List.set_cons_zero, flat_cons];rfl
   | succ i =>
     rw [List.set_cons_succ, flat_cons, <- ih i (by simpa using hf), show (i + 1) * 2 = i * 2 + 1 + 1 by omega];rfl
theorem Owns.setName {w : World} {e : TypeId} {q n c : Nat} {l : List FileD} (h : Owns w e (.slice (some ⟨q, 0, none⟩) n c) l) {i : Nat} {f : FileD} (hf : l[i]? = some f) (t : ByteArray) :
 Owns (w.setCell ⟨q, i * 2, none⟩ (.string t)) e (.slice (some ⟨q, 0, none⟩) n c) (l.set i ⟨t, f.text⟩) := by
 rcases h.2 with ⟨hv, _⟩ | ⟨g', cap, cur, hv, hb, hg, hn, hc, hs, ht⟩
 ·cases hv
 ·injection hv with e1 e2 e3;injection e1 with e1;injection e1 with e1;subst e1;refine ⟨by rw [length_flat], .inr ⟨q, cap, cur.setIfInBounds (i * 2) (.string t), by rw [e2, e3, List.length_set], hb, heap_setCell_same w q (i * 2) cur e _ hg, by rw [List.length_set]; exact hn, hc, by simpa using hs, ?_⟩⟩;rw [List.length_set, <- flat_name l i f hf, <- ht, Array.toList_setIfInBounds, List.take_set]
theorem drawer_do_append (w : World) (g : Nat) (F : Nat -> Prop) (d : List FileD) (x : Call) (h : (repHolds g 140 138).on w F d) (hok : DOk d) (hst : StrCall x) (hn : callCode x = 0) (hkk : x.kind = 4) (i : Nat) (f : FileD) (hd : dAt d x.name = some i) (hf : d[i]? = some f) (hsz : f.text.size <= 16) (hxs : x.text.size <= 8) (hlong : ¬ 16 < f.text.size + x.text.size) :
 Calls Tryz.prog 117 #[.pointer (some ⟨g, 0, none⟩), .agg x.cells] w (DDPost w g F d x) := by
 have HD := lh (show ddo d x = (ans 0, d.set i ⟨f.name, f.text ++ x.text⟩) by rw [ddo_found hn (by omega) (by omega) hd hf, if_neg (by omega), if_pos hkk, if_neg hlong]);have HR := lh h;obtain ⟨v, hF, hh⟩ := h;obtain ⟨A, c, rfl, hc, hcm, hr⟩ := hh.own.form;have hlt := hh.lt;have H := lh hh;have HOK := lh hok;have HF := lh hF;have hl6 := hok.len;have hg1 : (w.heap.size = g) = False := by simp; omega
 have hg2 : (w.heap.size + 1 = g) = False := by simp; omega
 have HC0 := lh hn;have HST := lh hst;clear hr hok hh hF hst;have HDI := lh hd;have hk6 : (x.kind == 6) = false := bF (by omega);have hk1 : (x.kind == 1) = false := bF (by omega);have hil : i < d.length := (lG hf).1;obtain ⟨ad, rfl, hadb, hat⟩ := H.out.own.reads i f hf;have HFI := lh hf;have HAT := lh (show At w (ad.add (i * 2)) f from hat);have HQ := lh H.out.own.some_form;have HNE := lh (H.out.own.elem H.out.cell (by decide));have hi0 : (0 : Int) <= (i : Int) := by omega
 have hi1 : (i : Int) < (d.length : Int) := by omega
 have hi2 : (i : Int) <= 1000 := by omega
 clear hd hf hat
 have hk5 : (x.kind == 5) = false := by rw [hkk]; rfl
 have hk4 : (x.kind == 4) = true := by rw [hkk]; rfl
 clear hn hkk;have hlong' : (f.text.size : Int) + (x.text.size : Int) <= 16 := by omega
 have hs1 : (0 : Int) <= (f.text.size : Int) + (x.text.size : Int) := by omega
 have hsw : IntKind.i64.wrap ((f.text.size : Int) + (x.text.size : Int)) = (f.text.size : Int) + (x.text.size : Int) := by rw [IntKind.wrap_i64]; omega
 have hbig : f.text.size + x.text.size <= 16 := by omega
 clear hlong;go_enter Tryz.func117, Tryz.ntmps117
 go_wp2_with (first
  |
   (go_at_call 64
    refine (ref_fault' _ x _ HC0.out HST.out).mono ?_;rintro e w1 ⟨rfl, hx1⟩;have hbx1 := hx1.blk (b := w.heap.size) (o := .cells x.cells 66 (0, 0)) (by simp only [heap_alloc_past, heap_alloc_at, World.size_alloc, Nat.lt_add_one]) id;have hbr1 := hx1.blk (b := w.heap.size + 1) (o := .cells Answer.zero.cells 101 (0, 0)) (by simp only [heap_alloc_at, World.size_alloc]) id;have ht1 := (((Touch.refl (fun _ => False) w).alloc (.cells x.cells 66)).alloc (.cells Answer.zero.cells 101)).trans hx1;have hbg1 := ht1.blk H.out.cell id;have hc10 := cell_of hbx1 0;have hc11 := cell_of hbx1 1;have hc12 := cell_of hbx1 2;have hc13 := cell_of hbx1 3;have hcg1 := cell_of hbg1 0;have hlb1 : w.heap.size + 2 <= w1.heap.size := by have := hx1.size; simpa using this
    have HE1 := lh (show Ext w w1 from ht1);have HBG1 := lh hbg1;have HRD := lh (Reads.ext H.out.reads ht1);clear hx1 ht1)
  )
 have hblk : (ad.add (i * 2)).block = ad.block := by unfold Addr.add; split <;> rfl
 have hbl1 : ad.block < w1.heap.size := by omega
 have HA1 := lh (show At w1 (ad.add (i * 2)) f from HAT.out.of_same (by rw [hblk]; exact HE1.out.block _ hadb id));have hcn : w1.cell? (ad.add (i * 2)) = some (.string f.name) := HA1.out 0 (.string f.name) rfl
 have hct : w1.cell? ⟨ad.block, (ad.add (i * 2)).off + 1, none⟩ = some (.string f.text) := by
  have hadd1 : ∀ a : Addr, a.add 1 = ⟨a.block, a.off + 1, none⟩ := fun a => by simp [Addr.add]
  have h2 := HA1.out 1 (.string f.text) rfl;rwa [hadd1, hblk] at h2
 have hfz : ∀ o, w1.frozen? ⟨ad.block, o, none⟩ = false := fun o => by
  rcases (H.out.ext HE1.out).own.2 with ⟨hv, _⟩ | ⟨g', cap, cur, hv, _, hg, _⟩
  ·cases hv
  ·injection hv with e1;injection e1 with e1;have : ad.block = g' := by rw [e1]
   rw [this];exact frozen_of hg _
 have hft := hfz ((ad.add (i * 2)).off + 1);go_quiet ((go_at_call 73; exact Calls.quiet_of_same (drawer_at_some _ w1.heap.size _ c d x.name i (HRD.out.below fun _ _ => rfl) (by omega) HDI.out)))
 go_wp2_with fail
 go_quiet (fail)
 go_wp2_with fail
 generalize hW : World.drewN w1 _ = w2;have HE2 := lh (show Ext w w2 by rw [<- hW]; exact HE1.out.drewN _);have hbr2 : w2.heap[w.heap.size + 1]? = some (.cells Answer.zero.cells 101 (0, 0)) := by rw [<- hW]; exact hbr1
 have hbx2 : w2.heap[w.heap.size]? = some (.cells x.cells 66 (0, 0)) := by rw [<- hW]; exact hbx1
 have hbg2 : w2.heap[g]? = some (.cells #[.slice (some ad) d.length c] 140 (0, 0)) := by rw [<- hW]; exact hbg1
 have hlw2 : w.heap.size + 2 <= w2.heap.size := by rw [<- hW]; exact hlb1
 have hlg2 : g < w2.heap.size := by omega
 have hlr2 : w.heap.size + 1 < w2.heap.size := by omega
 have hlx2 : w.heap.size < w2.heap.size := by omega
 have hcg2 := cell_of hbg2 0;have hcx21 := cell_of hbx2 1;have hcx22 := cell_of hbx2 2;have hcx23 := cell_of hbx2 3;have hcn2 : w2.cell? (ad.add (i * 2)) = some (.string f.name) := by rw [<- hW]; exact hcn
 have hct2 : w2.cell? ⟨ad.block, (ad.add (i * 2)).off + 1, none⟩ = some (.string f.text) := by rw [<- hW]; exact hct
 have hfz2 : ∀ o, w2.frozen? ⟨ad.block, o, none⟩ = false := fun o => by rw [<- hW]; exact hfz o
 have hft2 := hfz2 ((ad.add (i * 2)).off + 1)
 have hfn2 : w2.frozen? (ad.add (i * 2)) = false := by
  have := hfz2 (ad.add (i * 2)).off;obtain ⟨q, hq⟩ := HQ.out;subst hq;rw [show (⟨q, 0, none⟩ : Addr).add (i * 2) = ⟨q, ((⟨q, 0, none⟩ : Addr).add (i * 2)).off, none⟩ from by unfold Addr.add; split <;> rfl];exact this
 have hbl2 : ad.block < w2.heap.size := by omega
 have hnb2 : (w2.heap.size = ad.block) = False := by simp; omega
 clear hfz hfz2 hft hbr1 hbx1 hbg1 hcg1 hc10 hc11 hc12 hc13 hcn hct HA1 HBG1 hW HE1 hlb1 hbl1;go_region
 generalize hV : World.setCell _ ⟨ad.block, (ad.add (i * 2)).off + 1, none⟩ (.string (f.text ++ x.text)) = w3
 have hbr3 : w3.heap[w.heap.size + 1]? = some (.cells Answer.zero.cells 101 (0, 0)) := by
  rw [<- hV]; exact (heap_setCell_other _ ⟨ad.block, (ad.add (i * 2)).off + 1, none⟩ _ _ (by show w.heap.size + 1 ≠ _; show _ ≠ ad.block; omega)).trans hbr2
 have hS := lh (show (repHolds g 140 138).on w3 F (d.set i ⟨f.name, f.text ++ x.text⟩) from by
  rw [<- hV];obtain ⟨q, hq⟩ := HQ.out;subst hq;have haq : ((⟨q, 0, none⟩ : Addr).add (i * 2)).off + 1 = i * 2 + 1 := by unfold Addr.add; split <;> simp_all
  rw [haq];refine ⟨.slice (some ⟨q, 0, none⟩) d.length c, HF.out, ?_, (H.out.ext (HE2.out.drewN _)).own.setText HFI.out _⟩;exact (heap_setCell_other _ _ _ _ (fun e => HNE.out (by simp [Value.ownBlock]; exact e.symm))).trans hbg2)
 have hT := lh (show Touch F w w3 from by
  rw [<- hV]; exact ((HE2.out.drewN _).mono fun _ h => h.elim).setCell (a := ⟨ad.block, (ad.add (i * 2)).off + 1, none⟩) (.inl ((HF.out _).2 (.inr (by show some ad.block = some _; rfl)))) _)
 clear hV;obtain ⟨hlr3, hbr3'⟩ := aG hbr3;have hlw3 := hT.out.size;go_wp2
 refine ret_cell rfl isAnswer (w.heap.size + 1) (ans 0) rfl (setRow_heap _ _ _ _ _ _ hbr3) rfl ?_;unfold DDPost;rw [HD.out];have hnF : ¬ F (w.heap.size + 1) := fun hk => by have := Rep.lt _ HR.out _ hk; omega
 exact ⟨rfl, Moved.write2 hT.out (Rep.moved hS.out (Touch.refl _ _)) (by omega) hlr3 hnF ((Touch.refl (fun k => k = w.heap.size + 1) _).setRow (.inl rfl) _)⟩
theorem drawer_do_rename (w : World) (g : Nat) (F : Nat -> Prop) (d : List FileD) (x : Call) (h : (repHolds g 140 138).on w F d) (hok : DOk d) (hst : StrCall x) (hn : callCode x = 0) (hkk : x.kind = 3) (i : Nat) (f : FileD) (hd : dAt d x.name = some i) (hf : d[i]? = some f) (hto : dAt d x.to_ = none) :
 Calls Tryz.prog 117 #[.pointer (some ⟨g, 0, none⟩), .agg x.cells] w (DDPost w g F d x) := by
 have HD := lh (show ddo d x = (ans 0, d.set i ⟨x.to_, f.text⟩) by rw [ddo_found hn (by omega) (by omega) hd hf, if_neg (by omega), if_neg (by omega), if_pos hkk, hto]);have HR := lh h;obtain ⟨v, hF, hh⟩ := h;obtain ⟨A, c, rfl, hc, hcm, hr⟩ := hh.own.form;have hlt := hh.lt;have H := lh hh;have HOK := lh hok;have HF := lh hF;have hl6 := hok.len;have hg1 : (w.heap.size = g) = False := by simp; omega
 have hg2 : (w.heap.size + 1 = g) = False := by simp; omega
 have HC0 := lh hn;have HST := lh hst;clear hr hok hh hF hst;have HDI := lh hd;have hk6 : (x.kind == 6) = false := bF (by omega);have hk1 : (x.kind == 1) = false := bF (by omega);have hil : i < d.length := (lG hf).1;obtain ⟨ad, rfl, hadb, hat⟩ := H.out.own.reads i f hf;have HFI := lh hf;have HAT := lh (show At w (ad.add (i * 2)) f from hat);have HQ := lh H.out.own.some_form;have HNE := lh (H.out.own.elem H.out.cell (by decide));have hi0 : (0 : Int) <= (i : Int) := by omega
 have hi1 : (i : Int) < (d.length : Int) := by omega
 have hi2 : (i : Int) <= 1000 := by omega
 clear hd hf hat
 have hk5 : (x.kind == 5) = false := by rw [hkk]; rfl
 have hk4 : (x.kind == 4) = false := by rw [hkk]; rfl
 have hk3 : (x.kind == 3) = true := by rw [hkk]; rfl
 clear hn hkk;have HTO := lh hto;clear hto;go_enter Tryz.func117, Tryz.ntmps117
 go_wp2_with (first
  |
   (go_at_call 64
    refine (ref_fault' _ x _ HC0.out HST.out).mono ?_;rintro e w1 ⟨rfl, hx1⟩;have hbx1 := hx1.blk (b := w.heap.size) (o := .cells x.cells 66 (0, 0)) (by simp only [heap_alloc_past, heap_alloc_at, World.size_alloc, Nat.lt_add_one]) id;have hbr1 := hx1.blk (b := w.heap.size + 1) (o := .cells Answer.zero.cells 101 (0, 0)) (by simp only [heap_alloc_at, World.size_alloc]) id;have ht1 := (((Touch.refl (fun _ => False) w).alloc (.cells x.cells 66)).alloc (.cells Answer.zero.cells 101)).trans hx1;have hbg1 := ht1.blk H.out.cell id;have hc10 := cell_of hbx1 0;have hc11 := cell_of hbx1 1;have hc12 := cell_of hbx1 2;have hc13 := cell_of hbx1 3;have hcg1 := cell_of hbg1 0;have hlb1 : w.heap.size + 2 <= w1.heap.size := by have := hx1.size; simpa using this
    have HE1 := lh (show Ext w w1 from ht1);have HBG1 := lh hbg1;have HRD := lh (Reads.ext H.out.reads ht1);clear hx1 ht1)
  )
 have hblk : (ad.add (i * 2)).block = ad.block := by unfold Addr.add; split <;> rfl
 have hbl1 : ad.block < w1.heap.size := by omega
 have HA1 := lh (show At w1 (ad.add (i * 2)) f from HAT.out.of_same (by rw [hblk]; exact HE1.out.block _ hadb id));have hcn : w1.cell? (ad.add (i * 2)) = some (.string f.name) := HA1.out 0 (.string f.name) rfl
 have hct : w1.cell? ⟨ad.block, (ad.add (i * 2)).off + 1, none⟩ = some (.string f.text) := by
  have hadd1 : ∀ a : Addr, a.add 1 = ⟨a.block, a.off + 1, none⟩ := fun a => by simp [Addr.add]
  have h2 := HA1.out 1 (.string f.text) rfl;rwa [hadd1, hblk] at h2
 have hfz : ∀ o, w1.frozen? ⟨ad.block, o, none⟩ = false := fun o => by
  rcases (H.out.ext HE1.out).own.2 with ⟨hv, _⟩ | ⟨g', cap, cur, hv, _, hg, _⟩
  ·cases hv
  ·injection hv with e1;injection e1 with e1;have : ad.block = g' := by rw [e1]
   rw [this];exact frozen_of hg _
 have hft := hfz ((ad.add (i * 2)).off + 1);go_quiet ((go_at_call 73; exact Calls.quiet_of_same (drawer_at_some _ w1.heap.size _ c d x.name i (HRD.out.below fun _ _ => rfl) (by omega) HDI.out)))
 go_wp2_with fail
 go_quiet ((go_at_call 73; exact quiet_more (drawer_at_none _ w1.heap.size _ c d x.to_ (HRD.out.below fun _ _ => rfl) (by omega) HTO.out)))
 go_wp2_with fail
 generalize hW : World.drewN w1 _ = w2;have HE2 := lh (show Ext w w2 by rw [<- hW]; exact HE1.out.drewN _);have hbr2 : w2.heap[w.heap.size + 1]? = some (.cells Answer.zero.cells 101 (0, 0)) := by rw [<- hW]; exact hbr1
 have hbx2 : w2.heap[w.heap.size]? = some (.cells x.cells 66 (0, 0)) := by rw [<- hW]; exact hbx1
 have hbg2 : w2.heap[g]? = some (.cells #[.slice (some ad) d.length c] 140 (0, 0)) := by rw [<- hW]; exact hbg1
 have hlw2 : w.heap.size + 2 <= w2.heap.size := by rw [<- hW]; exact hlb1
 have hlg2 : g < w2.heap.size := by omega
 have hlr2 : w.heap.size + 1 < w2.heap.size := by omega
 have hlx2 : w.heap.size < w2.heap.size := by omega
 have hcg2 := cell_of hbg2 0;have hcx21 := cell_of hbx2 1;have hcx22 := cell_of hbx2 2;have hcx23 := cell_of hbx2 3;have hcn2 : w2.cell? (ad.add (i * 2)) = some (.string f.name) := by rw [<- hW]; exact hcn
 have hct2 : w2.cell? ⟨ad.block, (ad.add (i * 2)).off + 1, none⟩ = some (.string f.text) := by rw [<- hW]; exact hct
 have hfz2 : ∀ o, w2.frozen? ⟨ad.block, o, none⟩ = false := fun o => by rw [<- hW]; exact hfz o
 have hft2 := hfz2 ((ad.add (i * 2)).off + 1)
 have hfn2 : w2.frozen? (ad.add (i * 2)) = false := by
  have := hfz2 (ad.add (i * 2)).off;obtain ⟨q, hq⟩ := HQ.out;subst hq;rw [show (⟨q, 0, none⟩ : Addr).add (i * 2) = ⟨q, ((⟨q, 0, none⟩ : Addr).add (i * 2)).off, none⟩ from by unfold Addr.add; split <;> rfl];exact this
 have hbl2 : ad.block < w2.heap.size := by omega
 have hnb2 : (w2.heap.size = ad.block) = False := by simp; omega
 clear hfz hfz2 hft hbr1 hbx1 hbg1 hcg1 hc10 hc11 hc12 hc13 hcn hct HA1 HBG1 hW HE1 hlb1 hbl1;go_region
 generalize hV : World.setCell _ (ad.add (i * 2)) (.string (x.to_)) = w3
 have hbr3 : w3.heap[w.heap.size + 1]? = some (.cells Answer.zero.cells 101 (0, 0)) := by
  rw [<- hV]; exact (heap_setCell_other _ (ad.add (i * 2)) _ _ (by show w.heap.size + 1 ≠ _; rw [hblk]; omega)).trans hbr2
 have hS := lh (show (repHolds g 140 138).on w3 F (d.set i ⟨x.to_, f.text⟩) from by
  rw [<- hV];obtain ⟨q, hq⟩ := HQ.out;subst hq;rw [show (⟨q, 0, none⟩ : Addr).add (i * 2) = ⟨q, i * 2, none⟩ from by unfold Addr.add; split <;> simp_all];refine ⟨.slice (some ⟨q, 0, none⟩) d.length c, HF.out, ?_, (H.out.ext (HE2.out.drewN _)).own.setName HFI.out _⟩;exact (heap_setCell_other _ _ _ _ (fun e => HNE.out (by simp [Value.ownBlock]; exact e.symm))).trans hbg2)
 have hT := lh (show Touch F w w3 from by
  rw [<- hV]; exact ((HE2.out.drewN _).mono fun _ h => h.elim).setCell (a := (ad.add (i * 2))) (.inl ((HF.out _).2 (.inr (by show some ad.block = some _; rw [hblk])))) _)
 clear hV;obtain ⟨hlr3, hbr3'⟩ := aG hbr3;have hlw3 := hT.out.size;go_wp2
 refine ret_cell rfl isAnswer (w.heap.size + 1) (ans 0) rfl (setRow_heap _ _ _ _ _ _ hbr3) rfl ?_;unfold DDPost;rw [HD.out];have hnF : ¬ F (w.heap.size + 1) := fun hk => by have := Rep.lt _ HR.out _ hk; omega
 exact ⟨rfl, Moved.write2 hT.out (Rep.moved hS.out (Touch.refl _ _)) (by omega) hlr3 hnF ((Touch.refl (fun k => k = w.heap.size + 1) _).setRow (.inl rfl) _)⟩
theorem drawer_do_made (w : World) (g : Nat) (F : Nat -> Prop) (d : List FileD) (x : Call) (h : (repHolds g 140 138).on w F d) (hok : DOk d) (hst : StrCall x) (hn : callCode x = 0) (h1 : x.kind = 1) (hd : dAt d x.name = none) (hroom : d.length < 6) :
 Calls Tryz.prog 117 #[.pointer (some ⟨g, 0, none⟩), .agg x.cells] w (DDPost w g F d x) := by
 have HD := lh (show ddo d x = (ans 0, d ++ [⟨x.name, noText⟩]) by rw [ddo_make hn h1, hd]; simp only [if_neg (show ¬ 6 <= d.length by omega)]);have HR := lh h;obtain ⟨v, hF, hh⟩ := h;obtain ⟨A, c, rfl, hc, hcm, hr⟩ := hh.own.form;have hlt := hh.lt;have H := lh hh;have HOK := lh hok;have HF := lh hF;have hl6 := hok.len;have hg1 : (w.heap.size = g) = False := by simp; omega
 have hg2 : (w.heap.size + 1 = g) = False := by simp; omega
 have HC0 := lh hn;have HST := lh hst;clear hr hok hh hF hst;have HDI := lh hd;have HNE := lh (H.out.own.elem H.out.cell (by decide));have hk6 : (x.kind == 6) = false := bF (by omega);have hk1 : (x.kind == 1) = true := by rw [h1]; rfl
 clear hn h1 hd;go_enter Tryz.func117, Tryz.ntmps117
 go_wp2_with (first
  |
   (go_at_call 64
    refine (ref_fault' _ x _ HC0.out HST.out).mono ?_;rintro e w1 ⟨rfl, hx1⟩;have hbx1 := hx1.blk (b := w.heap.size) (o := .cells x.cells 66 (0, 0)) (by simp only [heap_alloc_past, heap_alloc_at, World.size_alloc, Nat.lt_add_one]) id;have hbr1 := hx1.blk (b := w.heap.size + 1) (o := .cells Answer.zero.cells 101 (0, 0)) (by simp only [heap_alloc_at, World.size_alloc]) id;have ht1 := (((Touch.refl (fun _ => False) w).alloc (.cells x.cells 66)).alloc (.cells Answer.zero.cells 101)).trans hx1;have hbg1 := ht1.blk H.out.cell id;have hc10 := cell_of hbx1 0;have hc11 := cell_of hbx1 1;have hc12 := cell_of hbx1 2;have hc13 := cell_of hbx1 3;have hcg1 := cell_of hbg1 0;have hlb1 : w.heap.size + 2 <= w1.heap.size := by have := hx1.size; simpa using this
    have HE1 := lh (show Ext w w1 from ht1);have HBG1 := lh hbg1;have HRD := lh (Reads.ext H.out.reads ht1);clear hx1 ht1)
  )
 go_quiet ((go_at_call 73; exact Calls.quiet_of_same (drawer_at_none _ w1.heap.size _ c d x.name (HRD.out.below fun _ _ => rfl) (by omega) HDI.out)))
 go_wp2_with fail
 generalize hW : World.drewN w1 _ = w2;have HE2 := lh (show Ext w w2 by rw [<- hW]; exact HE1.out.drewN _);have hbr2 : w2.heap[w.heap.size + 1]? = some (.cells Answer.zero.cells 101 (0, 0)) := by rw [<- hW]; exact hbr1
 have hbx2 : w2.heap[w.heap.size]? = some (.cells x.cells 66 (0, 0)) := by rw [<- hW]; exact hbx1
 have hbg2 : w2.heap[g]? = some (.cells #[.slice A d.length c] 140 (0, 0)) := by rw [<- hW]; exact hbg1
 have hlw2 : w.heap.size + 2 <= w2.heap.size := by rw [<- hW]; exact hlb1
 have hlg2 : g < w2.heap.size := by omega
 have hlr2 : w.heap.size + 1 < w2.heap.size := by omega
 have hlx2 : w.heap.size < w2.heap.size := by omega
 have hcg2 := cell_of hbg2 0;have hcx20 := cell_of hbx2 0;have hcx21 := cell_of hbx2 1;have HRD2 := lh (Reads.ext H.out.reads HE2.out);clear hbr1 hbx1 hbg1 hcg1 hc10 hc11 hc12 hc13 HBG1 hW HE1 hlb1 HRD
 go_region_law (
  (refine step_append_own (by rfl) (.tmp 63) (.tmp 67) 140 (by rfl) elemFileR Tryz.underlying140 (v := .slice A d.length c) (l := d) (by rfl) (H.out.own.ext (by first | exact (HE2.out.drewN _).alloc _ | exact (HE2.out.drew).alloc _ | exact HE2.out.alloc _ | exact ((HE2.out.alloc _).drew) | exact ((HE2.out.alloc _).drewN _))) [⟨x.name, noText⟩] (by rfl) (d.length + 1) (by rfl) (by rfl) (reads_block (x := (⟨x.name, noText⟩ : FileD)) (t := 138) (fr := (0, 0)) (b := w2.heap.size) (by first | exact heap_alloc_new _ _ | (simp only [heap_alloc_at, heap_drew', heap_drewN', World.size_alloc]; rfl)) (w2.heap.size + 2) (by omega)) (by simp; omega) ?_
   intro A4 c4 w4 hown4 hgrow4 hat4;have hx4 : Touch (fun k => (Value.slice A d.length c).ownBlock = some k) w w4 := Touch.grown (by first | exact ((HE2.out.drewN _).alloc _).mono (fun _ h => h.elim) | exact ((HE2.out.drew).alloc _).mono (fun _ h => h.elim) | exact (HE2.out.alloc _).mono (fun _ h => h.elim)) hgrow4 (fun q hq => .inl hq);have hbg4 := World.grownBy.blk hgrow4 (b := g) (o := .cells #[.slice A d.length c] 140 (0, 0)) (by first | exact (Below.heap_alloc _ _ _ hlg2).trans hbg2 | (simp only [heap_alloc_past, heap_drew', heap_drewN', hlg2, World.size_alloc, lt_size_add]; exact hbg2)) HNE.out;have hbr4 := World.grownBy.blk hgrow4 (b := w.heap.size + 1) (o := .cells Answer.zero.cells 101 (0, 0)) (by first | exact (Below.heap_alloc _ _ _ hlr2).trans hbr2 | (simp only [heap_alloc_past, heap_drew', heap_drewN', hlr2, World.size_alloc, lt_size_add]; exact hbr2)) (fun e => by have := H.out.own.lt _ e; omega);have hc4 := cell_of hbg4 0;have hf4 := frozen_of hbg4 0
   have hat4' : ∀ k, (Value.slice A4 (d.length + 1) c4).ownBlock = some k -> (Value.slice A d.length c).ownBlock = some k \/ w2.heap.size <= k := fun k hk => by
    rcases hat4 with h1 | h1
    ·exact .inl (h1 ▸ hk)
    ·rw [h1] at hk; injection hk with hk; refine .inr ?_; (try simp at hk); omega
   have HO4 := lh hown4;have HX4 := lh hx4;have HA4 := lh hat4';clear hown4 hgrow4 hat4 hat4' hx4))
 all_goals
  go_wp2
  refine ret_cell rfl isAnswer (w.heap.size + 1) (ans 0) rfl (setRow_heap _ _ _ _ _ _ ((heap_setCell_other _ ⟨g, 0, none⟩ _ _ (by show w.heap.size + 1 ≠ g; omega)).trans hbr4)) rfl ?_;unfold DDPost;rw [HD.out];have hnF : ¬ F (w.heap.size + 1) := fun hk => by have := Rep.lt _ HR.out _ hk; omega
  refine ⟨rfl, Holds.movedBy (_l := d) HF.out ((Holds.stored hbg4 HO4.out (by decide)).setRow (b := w.heap.size + 1) (fun hk => ?_) _) (((HX4.out.mono fun k hk => .inl (.inr hk)).setCell (a := ⟨g, 0, none⟩) (.inl (.inl rfl)) _).setRow (.inr (by omega)) _) (fun k hk => (HA4.out k hk).imp_right fun h => by omega)⟩;rcases hk with e | e
  ·omega
  ·rcases HA4.out _ e with h | h
   ·have := H.out.own.lt _ h; omega
   ·omega
theorem drawer_do_remove (w : World) (g : Nat) (F : Nat -> Prop) (d : List FileD) (x : Call) (h : (repHolds g 140 138).on w F d) (hok : DOk d) (hst : StrCall x) (hn : callCode x = 0) (hkk : x.kind = 2) (i : Nat) (f : FileD) (hd : dAt d x.name = some i) (hf : d[i]? = some f) :
 Calls Tryz.prog 117 #[.pointer (some ⟨g, 0, none⟩), .agg x.cells] w (DDPost w g F d x) := by
 have HD := lh (show ddo d x = (ans 0, d.take i ++ d.drop (i + 1)) by rw [ddo_found hn (by omega) (by omega) hd hf, if_neg (by omega), if_neg (by omega), if_neg (by omega), List.eraseIdx_eq_take_drop_succ]);have HR := lh h;obtain ⟨v, hF, hh⟩ := h;obtain ⟨A, c, rfl, hc, hcm, hr⟩ := hh.own.form;have hlt := hh.lt;have H := lh hh;have HOK := lh hok;have HF := lh hF;have hl6 := hok.len;have hg1 : (w.heap.size = g) = False := by simp; omega
 have hg2 : (w.heap.size + 1 = g) = False := by simp; omega
 have HC0 := lh hn;have HST := lh hst;clear hr hok hh hF hst;have HDI := lh hd;have hk6 : (x.kind == 6) = false := bF (by omega);have hk1 : (x.kind == 1) = false := bF (by omega);have hil : i < d.length := (lG hf).1;obtain ⟨ad, rfl, hadb, hat⟩ := H.out.own.reads i f hf;have HFI := lh hf;have HAT := lh (show At w (ad.add (i * 2)) f from hat);have HQ := lh H.out.own.some_form;have HNE := lh (H.out.own.elem H.out.cell (by decide));have hi0 : (0 : Int) <= (i : Int) := by omega
 have hi1 : (i : Int) < (d.length : Int) := by omega
 have hi2 : (i : Int) <= 1000 := by omega
 clear hd hf hat
 have hk5 : (x.kind == 5) = false := by rw [hkk]; rfl
 have hk4 : (x.kind == 4) = false := by rw [hkk]; rfl
 have hk3 : (x.kind == 3) = false := by rw [hkk]; rfl
 have hk2 : (x.kind == 2) = true := by rw [hkk]; rfl
 clear hn hkk;obtain ⟨A1, hA1⟩ : ∃ A1, (if c = i + 1 then some ad else some (ad.add ((i + 1) * 2))) = A1 := ⟨_, rfl⟩
 have HR1 := lh (H.out.own.reads.take i);have HR2 := lh (H.out.own.reads.cut (i + 1) c hc hA1);have hi4 : (0 : Int) <= (i : Int) + 1 := by omega
 have hi5 : (i : Int) + 1 <= (d.length : Int) := by omega
 have hi6 : i <= c := by omega
 have hi7 : i + 1 <= d.length := by omega
 go_enter Tryz.func117, Tryz.ntmps117
 go_wp2_with (first
  |
   (go_at_call 64
    refine (ref_fault' _ x _ HC0.out HST.out).mono ?_;rintro e w1 ⟨rfl, hx1⟩;have hbx1 := hx1.blk (b := w.heap.size) (o := .cells x.cells 66 (0, 0)) (by simp only [heap_alloc_past, heap_alloc_at, World.size_alloc, Nat.lt_add_one]) id;have hbr1 := hx1.blk (b := w.heap.size + 1) (o := .cells Answer.zero.cells 101 (0, 0)) (by simp only [heap_alloc_at, World.size_alloc]) id;have ht1 := (((Touch.refl (fun _ => False) w).alloc (.cells x.cells 66)).alloc (.cells Answer.zero.cells 101)).trans hx1;have hbg1 := ht1.blk H.out.cell id;have hc10 := cell_of hbx1 0;have hc11 := cell_of hbx1 1;have hc12 := cell_of hbx1 2;have hc13 := cell_of hbx1 3;have hcg1 := cell_of hbg1 0;have hlb1 : w.heap.size + 2 <= w1.heap.size := by have := hx1.size; simpa using this
    have HE1 := lh (show Ext w w1 from ht1);have HBG1 := lh hbg1;have HRD := lh (Reads.ext H.out.reads ht1);clear hx1 ht1)
  )
 go_quiet ((go_at_call 73; exact Calls.quiet_of_same (drawer_at_some _ w1.heap.size _ c d x.name i (HRD.out.below fun _ _ => rfl) (by omega) HDI.out)))
 go_wp2_with fail
 generalize hW : World.drewN w1 _ = w2;have HE2 := lh (show Ext w w2 by rw [<- hW]; exact HE1.out.drewN _);have hbr2 : w2.heap[w.heap.size + 1]? = some (.cells Answer.zero.cells 101 (0, 0)) := by rw [<- hW]; exact hbr1
 have hbx2 : w2.heap[w.heap.size]? = some (.cells x.cells 66 (0, 0)) := by rw [<- hW]; exact hbx1
 have hbg2 : w2.heap[g]? = some (.cells #[.slice (some ad) d.length c] 140 (0, 0)) := by rw [<- hW]; exact hbg1
 have hlw2 : w.heap.size + 2 <= w2.heap.size := by rw [<- hW]; exact hlb1
 have hlg2 : g < w2.heap.size := by omega
 have hlr2 : w.heap.size + 1 < w2.heap.size := by omega
 have hlx2 : w.heap.size < w2.heap.size := by omega
 have hcg2 := cell_of hbg2 0;have hcx20 := cell_of hbx2 0;have hcx21 := cell_of hbx2 1;have HRD2 := lh (Reads.ext H.out.reads HE2.out);clear hbr1 hbx1 hbg1 hcg1 hc10 hc11 hc12 hc13 HBG1 hW HE1 hlb1 HRD;have HT : Hid (i = (d.take i).length) := by show i = _; rw [List.length_take]; omega
 have HDR : Hid (d.length - (i + 1) = (d.drop (i + 1)).length) := by show _ = _; rw [List.length_drop]
 have HRW := lh (HR1.out.below (w' := w2) (fun k hk => HE2.out.block k hk id));have HRD := lh (HR2.out.below (w' := w2) (fun k hk => HE2.out.block k hk id));have hwr : IntKind.i64.wrap ((i : Int) + 1) = (i : Int) + 1 := IntWalk.i64_in _ (by omega);have hwn : ((i : Int) + 1).toNat = i + 1 := by omega
 have hl4 := lh hl6;have hil' := lh hil
 go_region_law (first
  | (refine step_append_own (by rfl) (.tmp 135) (.tmp 140) 140 (by rfl) elemFileR Tryz.underlying140 (v := .slice none 0 0) (l := []) (by rfl) (Owns.nil _ _) (d.take i) HT.out i (by simp) (by rfl) HRW.out (by have := HT.out; have := hil'.out; have := hl4.out; simp; omega) ?_
     intro A2 c2 w3 hown2 hgrow2 hat2;simp only [List.nil_append] at hown2
     have hob2 : ∀ k, (Value.slice A2 i c2).ownBlock = some k -> w2.heap.size <= k := fun k hk => by
      rcases hat2 with h1 | h1 <;> rw [h1] at hk <;> simp [Value.ownBlock] at hk
      omega
     have hy2 := World.grownBy.blk hgrow2 (b := g) (o := .cells #[.slice (some ad) d.length c] 140 (0, 0)) hbg2 (by simp [Value.ownBlock]);have hy21 := World.grownBy.blk hgrow2 (b := w.heap.size + 1) (o := .cells Answer.zero.cells 101 (0, 0)) hbr2 (by simp [Value.ownBlock]);have hc2 := cell_of hy2 0;have hsz2 : w2.heap.size <= w3.heap.size := hgrow2.size)
  | (refine step_append_own (by rfl) (.tmp 141) (.tmp 147) 140 (by rfl) elemFileR Tryz.underlying140 (v := .slice A2 i c2) (l := d.take i) (by rfl) hown2 (d.drop (i + 1)) HDR.out (i + (d.length - (i + 1))) (by rw [<- HT.out]) (by rfl) (HRD.out.below fun k hk => hgrow2.block k (by have := HE2.out.size; show k < w2.heap.size; omega) (by simp [Value.ownBlock])) (by have := hl4.out; simp; omega) ?_
     intro A3 c3 w4 hown3 hgrow3 hat3
     have hob3 : ∀ k, (Value.slice A3 (i + (d.length - (i + 1))) c3).ownBlock = some k -> w2.heap.size <= k := fun k hk => by
      rcases hat3 with h1 | h1
      ·exact hob2 k (h1 ▸ hk)
      ·rw [h1] at hk; injection hk with hk; have : w3.heap.size = k := hk; omega
     have hy3 := World.grownBy.blk hgrow3 hy2 (fun e => by have := hob2 _ e; omega);have hy31 := World.grownBy.blk hgrow3 hy21 (fun e => by have := hob2 _ e; omega);have hc3 := cell_of hy3 0;have hf3 := frozen_of hy3 0;have HO3 := lh hown3;have HG2 := lh hgrow2;have HG3 := lh hgrow3;have HB2 := lh hob2;have HB3 := lh hob3;clear hown3 hown2 hob2 hob3 hat2 hat3 hgrow2 hgrow3))
 all_goals
  go_wp2
  refine ret_cell rfl isAnswer (w.heap.size + 1) (ans 0) rfl (setRow_heap _ _ _ _ _ _ ((heap_setCell_other _ ⟨g, 0, none⟩ _ _ (by show w.heap.size + 1 ≠ g; omega)).trans hy31)) rfl ?_;unfold DDPost;rw [HD.out];have hxx : Touch (fun _ => False) w w4 := ((HE2.out.drewN _).grown HG2.out (fun k hk => by simp [Value.ownBlock] at hk)).grown HG3.out (fun k hk => .inr (by have := HB2.out _ hk; omega));refine ⟨rfl, Holds.movedBy (_l := d) HF.out ((Holds.stored hy3 HO3.out (by decide)).setRow (b := w.heap.size + 1) (fun hk => ?_) _) (((hxx.mono fun k hk => hk.elim).setCell (a := ⟨g, 0, none⟩) (.inl (.inl rfl)) _).setRow (.inr (by omega)) _) (fun k hk => .inr (by have := HB3.out _ hk; omega))⟩;rcases hk with e | e
  ·omega
  ·have := HB3.out _ e; omega
theorem drawer_do (w : World) (g : Nat) (F : Nat -> Prop) (d : List FileD) (x : Call) (h : (repHolds g 140 138).on w F d) (hok : DOk d) (hst : StrCall x) :
 Calls Tryz.prog 117 #[.pointer (some ⟨g, 0, none⟩), .agg x.cells] w (DDPost w g F d x) := by
 by_cases h0 : callCode x = 0
 ·have hk := callCode_kind h0;by_cases h6 : x.kind = 6
  ·exact drawer_do_list w g F d x h hok hst h0 h6
  by_cases h1 : x.kind = 1
  ·cases hd : dAt d x.name with
   | some i => exact drawer_do_there w g F d x h hok hst h0 h1 i hd
   | none =>
     by_cases hf : 6 <= d.length
     ·exact drawer_do_full w g F d x h hok hst h0 h1 hd hf
     ·exact drawer_do_made w g F d x h hok hst h0 h1 hd (by omega)
  cases hd : dAt d x.name with
  | none => exact drawer_do_lost w g F d x h hok hst h0 h6 h1 hd
  | some i =>
    obtain ⟨f, hf, _, _⟩ := dAt_some hd;by_cases h5 : x.kind = 5
    ·exact drawer_do_read w g F d x h hok hst h0 h5 i f hd hf
    by_cases h4 : x.kind = 4
    ·have h8 := okText_le (callCode_text h0 h4);have h16 := (hok.each f (List.mem_of_getElem? hf)).2;by_cases hlong : 16 < f.text.size + x.text.size
     ·exact drawer_do_long w g F d x h hok hst h0 h4 i f hd hf h16 h8 hlong
     ·exact drawer_do_append w g F d x h hok hst h0 h4 i f hd hf h16 h8 hlong
    by_cases h3 : x.kind = 3
    ·cases hto : dAt d x.to_ with
     | some j => exact drawer_do_taken w g F d x h hok hst h0 h3 i j f hd hf hto
     | none => exact drawer_do_rename w g F d x h hok hst h0 h3 i f hd hf hto
    ·exact drawer_do_remove w g F d x h hok hst h0 (by omega) i f hd hf
 ·exact drawer_do_fault w g F d x _ h hok hst rfl h0
end Go.Proofs.YtalfbhhldfffkaaGreatDoor
