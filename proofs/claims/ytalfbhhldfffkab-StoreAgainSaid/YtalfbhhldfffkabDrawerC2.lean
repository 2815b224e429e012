/- DrawerC2: the reference's Drawer: Names. -/
import Derived.Test.YtalfbhhldfffkabDrawerC
namespace Go.Proofs.Ytalfbhhldfffkab
open Go.RowKit

def dNamesUpto (d : List FileD) (i : Nat) : List ByteArray := dNames (d.take i)
theorem dNames_take {d : List FileD} {i : Nat} {f : FileD} (h : d[i]? = some f) : dNamesUpto d (i + 1) = insName f.name (dNamesUpto d i) := by
  unfold dNamesUpto dNames
  rw [List.take_add_one, h, List.foldl_append]
  rfl
def below (out : List ByteArray) (n : ByteArray) : Nat := (out.takeWhile fun m => bless m n).length
theorem insName_eq (out : List ByteArray) (n : ByteArray) : insName n out = out.take (below out n) ++ n :: out.drop (below out n) := by
  unfold insName below
  rw [(take_len List.takeWhile_append_dropWhile).1, (take_len List.takeWhile_append_dropWhile).2]
theorem below_of {out : List ByteArray} {n : ByteArray} {p : Nat} (hp : p ≤ out.length) (h1 : ∀ (j : Nat) s, j < p → out[j]? = some s → bless s n = true) (h2 : ∀ s, out[p]? = some s → bless s n = false) : p = below out n := by
  induction out generalizing p with
  | nil => simp at hp; simp [hp, below]
  | cons x l ih =>
    unfold below
    cases p with
    | zero => rw [List.takeWhile_cons, h2 x rfl]; rfl
    | succ p =>
      rw [List.takeWhile_cons, h1 0 x (by omega) rfl]
      have := ih (p := p) (by simpa using hp) (fun j f hj hf => h1 (j + 1) f (by omega) (by simpa using hf)) (fun f hf => h2 f (by simpa using hf))
      simp [below] at this ⊢
      exact this
theorem insName_at {out : List ByteArray} {n : ByteArray} {j : Nat} (h : j = below out n) : out.take j ++ n :: out.drop j = insName n out := by rw [insName_eq, ← h]
theorem length_insName (n : ByteArray) (out : List ByteArray) : (insName n out).length = out.length + 1 := by rw [(insName_perm n out).length_eq, List.length_cons]
theorem length_dNamesUpto (d : List FileD) (i : Nat) (hi : i ≤ d.length) : (dNamesUpto d i).length = i := by
  induction i with
  | zero => rfl
  | succ i ih =>
    obtain ⟨f, hf⟩ : ∃ f, d[i]? = some f := ⟨d[i], by simp⟩
    rw [dNames_take hf, length_insName, ih (by omega)]

def DNRel (w : World) (d : List FileD) (out i : Value) (wr : World) : Prop :=
  ∃ (k : Nat) (A1 : Option Addr) (c1 : Nat), i = .int .i64 k ∧ k ≤ d.length ∧ out = .slice A1 k c1 ∧ Owns wr 9 (.slice A1 k c1) (dNamesUpto d k) ∧ Ext w wr ∧ ∀ q, (Value.slice A1 k c1).ownBlock = some q → w.heap.size ≤ q
def InRel (wr : World) (L : List ByteArray) (n : ByteArray) (k : Nat) (i : Value) (wq : World) : Prop :=
  ∃ (j nq : Nat), i = .int .i64 j ∧ j ≤ k ∧ (∀ (t : Nat) s, t < j → L[t]? = some s → bless s n = true) ∧ wq = wr.drewN nq
theorem World.grownBy.cellAt {w w' : World} {row : Option Nat} (hg : w.grownBy w' row) {p : Addr} (h : p.block < w.heap.size) (hne : row ≠ some p.block) : w'.cell? p = w.cell? p :=
  World.cell?_of_block (hg.block p.block h fun e => hne e.symm)

set_option maxHeartbeats 1000000 in
set_option maxRecDepth 100000 in
theorem drawer_names (w : World) (A : Option Addr) (c : Nat) (d : List FileD) (hr : Reads w w.heap.size A d) (hl : d.length ≤ 1000) :
    Calls Try.prog 25 #[.slice A d.length c] w (NewList w 9 (dNames d)) := by
  have HR := Lib.hid hr
  clear hr
  go_enter Try.func25, Try.ntmps25
  go_wp2
  go_loopw [3, 4] (fun out i wr => DNRel w d out i wr) (fun _ i _ => d.length - (intOf i).toNat)
  case atStart => exact ⟨0, none, 0, rfl, Nat.zero_le _, rfl, Owns.nil _ _, Touch.refl _ w, fun k hk => by simp [Value.ownBlock] at hk⟩
  case round =>
    obtain ⟨k, A1, c1, rfl, hk, rfl, ho, hx, hf⟩ := hrel
    have HO := Lib.hid ho
    have HX := Lib.hid hx
    have HB := Lib.hid hf
    clear ho hx hf
    by_cases hlt : k < d.length
    · obtain ⟨f, hf⟩ : ∃ f, d[k]? = some f := ⟨d[k], by simp [hlt]⟩
      obtain ⟨ad, rfl, hb, hat⟩ := HR.out _ f hf
      have hcn : wr.cell? (ad.add (k * 2)) = some (.string f.name) := (hat.of_same (w' := wr) (by rw [show (ad.add (k * Lies.size FileD)).block = ad.block by unfold Addr.add; split <;> rfl]; exact HX.out.block _ hb id)) 0 (.string f.name) rfl
      have hadw : (ad.add (k * 2)).block < wr.heap.size := by rw [show (ad.add (k * 2)).block = ad.block by unfold Addr.add; split <;> rfl]; exact Nat.lt_of_lt_of_le hb HX.out.size
      have HF := Lib.hid hf
      have hk1000 := Lib.hid (show k ≤ 1000 by omega)
      have hkk : (k : Int) ≤ 1000 := by omega
      have hc1k : k ≤ c1 := by obtain ⟨A', c', he, h1, _, _⟩ := HO.out.form; injection he with e1 e2 e3; omega
      clear hf hat hb
      go_wp2_with fail
      go_loopw [5] (fun i wq => InRel wr (dNamesUpto d k) f.name k i wq) (fun i _ => k - (intOf i).toNat)
      case atStart => exact ⟨0, 0, rfl, Nat.zero_le _, fun t s ht => by omega, rfl⟩
      case round =>
        obtain ⟨j, mq, rfl, hj, hbl, rfl⟩ := hrel
        have HBL := Lib.hid hbl
        clear hbl
        have hj0 : (0 : Int) ≤ (j : Int) := by omega
        by_cases hjk0 : j < k
        · obtain ⟨s, hs⟩ : ∃ s, (dNamesUpto d k)[j]? = some s := ⟨(dNamesUpto d k)[j]'(by rw [length_dNamesUpto d k hk]; exact hjk0), by simp⟩
          obtain ⟨ad1, rfl, _, hat1⟩ := HO.out.reads j s hs
          have hcs : wr.cell? (ad1.add j) = some (.string s) := by have := hat1 0 (.string s) rfl; rwa [addr_add_add, show j * Lies.size ByteArray + 0 = j from Nat.mul_one j] at this
          have HSJ := Lib.hid hs
          have hjk' : (j : Int) < (k : Int) := by omega
          clear hs hat1
          cases hbb : bless s f.name with
          | true =>
            have hbt : Op.bytesLess s.toList f.name.toList = true := hbb
            have HBB := Lib.hid hbb
            clear hbb
            go_wp2_with fail
            go_quiet (fail)
            go_wp2
            go_roundw
            case rel =>
              refine ⟨j + 1, _, by go_num, by omega, fun t u ht hu => ?_, rfl⟩
              by_cases e : t = j
              · subst e; rw [HSJ.out] at hu; injection hu with hu; subst hu; exact HBB.out
              · exact HBL.out t u (by omega) hu
            case measure => simp [intOf]; omega
          | false =>
            have hbt : Op.bytesLess s.toList f.name.toList = false := hbb
            have HP := Lib.hid (show j = below (dNamesUpto d k) f.name from below_of (by rw [length_dNamesUpto d k hk]; omega) HBL.out (fun u hu => by rw [HSJ.out] at hu; injection hu with hu; subst hu; exact hbb))
            obtain ⟨A9, hA9⟩ : ∃ A9, (if c1 = j then some ad1 else some (ad1.add j)) = A9 := ⟨_, rfl⟩
            have HR2 := Lib.hid (HO.out.reads.cut j c1 (by rw [length_dNamesUpto d k hk]; exact hc1k) (by show (if c1 = j then some ad1 else some (ad1.add (j * 1))) = A9; rw [Nat.mul_one]; exact hA9))
            clear hbb
            go_wp2_with fail
            go_quiet (fail)
            go_wp2_with fail
            have hk1 : (0 : Int) ≤ (j : Int) := by omega
            have hk2 : (j : Int) ≤ (k : Int) := by omega
            have hk3 : (j : Int) ≤ (c1 : Int) := by omega
            have hk4 : (k : Int) ≤ (c1 : Int) := by omega
            have hjk : j ≤ k := by omega
            have hjc : j ≤ c1 := by omega
            have HTL := Lib.hid (show j = ((dNamesUpto d k).take j).length by rw [List.length_take, length_dNamesUpto d k hk]; omega)
            have HDL := Lib.hid (show k - j = ((dNamesUpto d k).drop j).length by rw [List.length_drop, length_dNamesUpto d k hk])
            have HR1 := Lib.hid (HO.out.reads.take j)
            have HCK := Lib.hid hc1k
            have hcn0a := fun (m : Nat) (o : Obj) => (World.cell?_of_block (w := wr.drewN m) (w' := (wr.drewN m).alloc o) (a := ad.add (k * 2)) (Below.heap_alloc (wr.drewN m) o _ hadw)).trans (show (wr.drewN m).cell? (ad.add (k * 2)) = some (.string f.name) from hcn)
            clear hc1k
            go_region_held3 (fun w' => w'.cell? (ad.add (k * 2)) = some (.string f.name))
              (first | exact hcn4 | exact hcn3 | exact hcn2a _ | exact hcn2 | exact hcn0a _ _ | exact hcn)
              (first
                | (refine step_append_own (by rfl) (.tmp 31) (.tmp 34) 32 (by rfl) elemString Try.underlying32 (v := .slice none 0 0) (l := []) (by rfl) (Owns.nil _ _) ((dNamesUpto d k).take j) HTL.out j (by simp) (by rfl) (by first | exact HR1.out.below (fun _ _ => rfl) | exact HR1.out.below (fun q hq => Below.heap_alloc _ _ _ hq)) (by have := HTL.out; have := hk1000.out; simp; omega) ?_
                   intro A2 c2 w2 hown2 hgrow2 hat2
                   simp only [List.nil_append] at hown2
                   have hx2 : Ext wr w2 := Touch.grown (by first | exact (((Touch.refl _ wr).drewN _).drewN _).drew | exact ((Touch.refl _ wr).drewN _).alloc _ | exact ((Touch.refl _ wr).drewN _) | exact ((((Touch.refl _ wr).drewN _).drewN _).drew).alloc _) hgrow2 (fun q hq => by simp [Value.ownBlock] at hq)
                   have hob2 : ∀ q, (Value.slice A2 j c2).ownBlock = some q → wr.heap.size ≤ q := fun q hq => by
                     rcases hat2 with h1 | h1 <;> rw [h1] at hq <;> simp [Value.ownBlock] at hq
                     omega
                   have hcn2 : w2.cell? (ad.add (k * 2)) = some (.string f.name) := (World.cell?_of_block (hx2.block _ hadw id)).trans hcn
                   have hcn2a := fun o => (World.cell?_of_block (w := w2) (w' := w2.alloc o) (a := ad.add (k * 2)) (Below.heap_alloc w2 o _ (Nat.lt_of_lt_of_le hadw hx2.size))).trans hcn2
                   have hnm2 := fun (b : Nat) (h : _) => World.grownBy.blk (b := b) (o := .cells #[.string f.name] 9 (0, 0)) hgrow2 h (by simp [Value.ownBlock])
                   have HX2 := Lib.hid hx2
                   have HB2 := Lib.hid hob2
                   have HN2 := Lib.hid hnm2
                   have HO2 := Lib.hid hown2
                   clear hx2 hob2 hgrow2 hat2 hown2 hnm2
                   try clear hA9)
                | (refine step_append_own (by rfl) (.tmp 35) (.tmp 41) 32 (by rfl) elemString Try.underlying32 (v := .slice A2 j c2) (l := (dNamesUpto d k).take j) (by rfl) (by first | exact HO2.out.ext ((Touch.refl _ w2).alloc _) | exact HO2.out) [f.name] (by rfl) (j + 1) (show ((dNamesUpto d k).take j).length + 1 = j + 1 by rw [← HTL.out]) (by rfl) (by first | exact reads_block (x := f.name) (b := w2.heap.size) (heap_alloc_new w2 _) (w2.heap.size + 1) (by omega) | exact reads_block (x := f.name) (HN2.out _ (heap_alloc_new _ _)) (w2.heap.size + 1) (by have := HX2.out.size; simp; omega)) (by have := HTL.out; have := hk1000.out; simp; omega) ?_
                   intro A3 c3 w3 hown3 hgrow3 hat3
                   have hx3 : Ext wr w3 := Touch.grown (by first | exact HX2.out.alloc _ | exact HX2.out) hgrow3 (fun q hq => .inr (HB2.out q hq))
                   have hob3 : ∀ q, (Value.slice A3 (j + 1) c3).ownBlock = some q → wr.heap.size ≤ q := fun q hq => by
                     rcases hat3 with h1 | h1
                     · exact HB2.out q (h1 ▸ hq)
                     · rw [h1] at hq; injection hq with hq; have := HX2.out.size; (try simp at hq); omega
                   have hcn3 : w3.cell? (ad.add (k * 2)) = some (.string f.name) := (World.cell?_of_block (hx3.block _ hadw id)).trans hcn
                   have HX3 := Lib.hid hx3
                   have HB3 := Lib.hid hob3
                   have HO3 := Lib.hid hown3
                   clear hx3 hob3 hgrow3 hat3 hown3)
                | (refine step_append_own (by rfl) (.tmp 42) (.tmp 45) 32 (by rfl) elemString Try.underlying32 (v := .slice A3 (j + 1) c3) (l := (dNamesUpto d k).take j ++ [f.name]) (by rfl) HO3.out ((dNamesUpto d k).drop j) HDL.out (k + 1) (by have := HTL.out; rw [List.length_append, ← this]; simp; omega) (by rfl) (HR2.out.below fun q hq => HX3.out.block q hq id) (by have := length_dNamesUpto d k hk; have := hk1000.out; simp; omega) ?_
                   intro A4 c4 w4 hown4 hgrow4 hat4
                   have hx4 : Ext wr w4 := Touch.grown HX3.out hgrow4 (fun q hq => .inr (HB3.out q hq))
                   have hob4 : ∀ q, (Value.slice A4 (k + 1) c4).ownBlock = some q → wr.heap.size ≤ q := fun q hq => by
                     rcases hat4 with h1 | h1
                     · exact HB3.out q (h1 ▸ hq)
                     · rw [h1] at hq; injection hq with hq; have := HX3.out.size; omega
                   have hcn4 : w4.cell? (ad.add (k * 2)) = some (.string f.name) := (World.cell?_of_block (hx4.block _ hadw id)).trans hcn
                   have HX4 := Lib.hid hx4
                   have HB4 := Lib.hid hob4
                   have HO4 := Lib.hid hown4
                   clear hx4 hob4 hgrow4 hat4 hown4))
            all_goals
              go_wp2
              go_roundw
              case rel =>
                have h4 := HO4.out
                rw [List.append_assoc, List.singleton_append, insName_at HP.out, ← dNames_take HF.out] at h4
                exact ⟨k + 1, A4, c4, by go_num, by omega, rfl, h4, HX.out.trans HX4.out, fun q hq => Nat.le_trans HX.out.size (HB4.out q hq)⟩
              case measure => simp [intOf]; omega
        · obtain rfl : j = k := by omega
          have HP := Lib.hid (show j = below (dNamesUpto d j) f.name from below_of (by rw [length_dNamesUpto d j hk]; exact Nat.le_refl _) HBL.out (fun u hu => by have := (List.getElem?_eq_some_iff.1 hu).1; rw [length_dNamesUpto d j hk] at this; omega))
          cases A1 with
          | none =>
            have hnn := HO.out.none_nil
            have HR2 := Lib.hid (show Reads wr wr.heap.size none ((dNamesUpto d j).drop j) from by rw [hnn, List.drop_nil]; exact Reads.nil _ _ _)
            have hA9 : True := trivial
            clear hnn
            go_wp2_with fail
            go_quiet (fail)
            go_wp2_with fail
            have hk1 : (0 : Int) ≤ (j : Int) := by omega
            have hk2 : (j : Int) ≤ (j : Int) := by omega
            have hk3 : (j : Int) ≤ (c1 : Int) := by omega
            have hk4 : (j : Int) ≤ (c1 : Int) := by omega
            have hjk : j ≤ j := by omega
            have hjc : j ≤ c1 := by omega
            have HTL := Lib.hid (show j = ((dNamesUpto d j).take j).length by rw [List.length_take, length_dNamesUpto d j hk]; omega)
            have HDL := Lib.hid (show 0 = ((dNamesUpto d j).drop j).length by rw [List.length_drop, length_dNamesUpto d j hk]; omega)
            have HR1 := Lib.hid (HO.out.reads.take j)
            have HCK := Lib.hid hc1k
            have hcn0a := fun (m : Nat) (o : Obj) => (World.cell?_of_block (w := wr.drewN m) (w' := (wr.drewN m).alloc o) (a := ad.add (j * 2)) (Below.heap_alloc (wr.drewN m) o _ hadw)).trans (show (wr.drewN m).cell? (ad.add (j * 2)) = some (.string f.name) from hcn)
            clear hc1k
            go_region_held3 (fun w' => w'.cell? (ad.add (j * 2)) = some (.string f.name))
              (first | exact hcn4 | exact hcn3 | exact hcn2a _ | exact hcn2 | exact hcn0a _ _ | exact hcn)
              (first
                | (refine step_append_own (by rfl) (.tmp 31) (.tmp 34) 32 (by rfl) elemString Try.underlying32 (v := .slice none 0 0) (l := []) (by rfl) (Owns.nil _ _) ((dNamesUpto d j).take j) HTL.out j (by simp) (by rfl) (by first | exact HR1.out.below (fun _ _ => rfl) | exact HR1.out.below (fun q hq => Below.heap_alloc _ _ _ hq)) (by have := HTL.out; have := hk1000.out; simp; omega) ?_
                   intro A2 c2 w2 hown2 hgrow2 hat2
                   simp only [List.nil_append] at hown2
                   have hx2 : Ext wr w2 := Touch.grown (by first | exact (((Touch.refl _ wr).drewN _).drewN _).drew | exact ((Touch.refl _ wr).drewN _).alloc _ | exact ((Touch.refl _ wr).drewN _) | exact ((((Touch.refl _ wr).drewN _).drewN _).drew).alloc _) hgrow2 (fun q hq => by simp [Value.ownBlock] at hq)
                   have hob2 : ∀ q, (Value.slice A2 j c2).ownBlock = some q → wr.heap.size ≤ q := fun q hq => by
                     rcases hat2 with h1 | h1 <;> rw [h1] at hq <;> simp [Value.ownBlock] at hq
                     omega
                   have hcn2 : w2.cell? (ad.add (j * 2)) = some (.string f.name) := (World.cell?_of_block (hx2.block _ hadw id)).trans hcn
                   have hcn2a := fun o => (World.cell?_of_block (w := w2) (w' := w2.alloc o) (a := ad.add (j * 2)) (Below.heap_alloc w2 o _ (Nat.lt_of_lt_of_le hadw hx2.size))).trans hcn2
                   have hnm2 := fun (b : Nat) (h : _) => World.grownBy.blk (b := b) (o := .cells #[.string f.name] 9 (0, 0)) hgrow2 h (by simp [Value.ownBlock])
                   have HX2 := Lib.hid hx2
                   have HB2 := Lib.hid hob2
                   have HN2 := Lib.hid hnm2
                   have HO2 := Lib.hid hown2
                   clear hx2 hob2 hgrow2 hat2 hown2 hnm2
                   try clear hA9)
                | (refine step_append_own (by rfl) (.tmp 35) (.tmp 41) 32 (by rfl) elemString Try.underlying32 (v := .slice A2 j c2) (l := (dNamesUpto d j).take j) (by rfl) (by first | exact HO2.out.ext ((Touch.refl _ w2).alloc _) | exact HO2.out) [f.name] (by rfl) (j + 1) (show ((dNamesUpto d j).take j).length + 1 = j + 1 by rw [← HTL.out]) (by rfl) (by first | exact reads_block (x := f.name) (b := w2.heap.size) (heap_alloc_new w2 _) (w2.heap.size + 1) (by omega) | exact reads_block (x := f.name) (HN2.out _ (heap_alloc_new _ _)) (w2.heap.size + 1) (by have := HX2.out.size; simp; omega)) (by have := HTL.out; have := hk1000.out; simp; omega) ?_
                   intro A3 c3 w3 hown3 hgrow3 hat3
                   have hx3 : Ext wr w3 := Touch.grown (by first | exact HX2.out.alloc _ | exact HX2.out) hgrow3 (fun q hq => .inr (HB2.out q hq))
                   have hob3 : ∀ q, (Value.slice A3 (j + 1) c3).ownBlock = some q → wr.heap.size ≤ q := fun q hq => by
                     rcases hat3 with h1 | h1
                     · exact HB2.out q (h1 ▸ hq)
                     · rw [h1] at hq; injection hq with hq; have := HX2.out.size; (try simp at hq); omega
                   have hcn3 : w3.cell? (ad.add (j * 2)) = some (.string f.name) := (World.cell?_of_block (hx3.block _ hadw id)).trans hcn
                   have HX3 := Lib.hid hx3
                   have HB3 := Lib.hid hob3
                   have HO3 := Lib.hid hown3
                   clear hx3 hob3 hgrow3 hat3 hown3)
                | (refine step_append_own (by rfl) (.tmp 42) (.tmp 45) 32 (by rfl) elemString Try.underlying32 (v := .slice A3 (j + 1) c3) (l := (dNamesUpto d j).take j ++ [f.name]) (by rfl) HO3.out ((dNamesUpto d j).drop j) HDL.out (j + 1) (show ((dNamesUpto d j).take j ++ [f.name]).length + 0 = j + 1 by have := HTL.out; rw [List.length_append]; show _ + 1 + _ = _; omega) (by rfl) (HR2.out.below fun q hq => HX3.out.block q hq id) (by have := length_dNamesUpto d j hk; have := hk1000.out; simp; omega) ?_
                   intro A4 c4 w4 hown4 hgrow4 hat4
                   have hx4 : Ext wr w4 := Touch.grown HX3.out hgrow4 (fun q hq => .inr (HB3.out q hq))
                   have hob4 : ∀ q, (Value.slice A4 (j + 1) c4).ownBlock = some q → wr.heap.size ≤ q := fun q hq => by
                     rcases hat4 with h1 | h1
                     · exact HB3.out q (h1 ▸ hq)
                     · rw [h1] at hq; injection hq with hq; have := HX3.out.size; omega
                   have hcn4 : w4.cell? (ad.add (j * 2)) = some (.string f.name) := (World.cell?_of_block (hx4.block _ hadw id)).trans hcn
                   have HX4 := Lib.hid hx4
                   have HB4 := Lib.hid hob4
                   have HO4 := Lib.hid hown4
                   clear hx4 hob4 hgrow4 hat4 hown4))
            all_goals
              go_wp2
              go_roundw
              case rel =>
                have h4 := HO4.out
                rw [List.append_assoc, List.singleton_append, insName_at HP.out, ← dNames_take HF.out] at h4
                exact ⟨j + 1, A4, c4, by go_num, by omega, rfl, h4, HX.out.trans HX4.out, fun q hq => Nat.le_trans HX.out.size (HB4.out q hq)⟩
              case measure => simp [intOf]; omega
          | some ad1 =>
            obtain ⟨A9, hA9⟩ : ∃ A9, (if c1 = j then some ad1 else some (ad1.add j)) = A9 := ⟨_, rfl⟩
            have HR2 := Lib.hid (HO.out.reads.cut j c1 (by rw [length_dNamesUpto d j hk]; exact hc1k) (by show (if c1 = j then some ad1 else some (ad1.add (j * 1))) = A9; rw [Nat.mul_one]; exact hA9))
            go_wp2_with fail
            go_quiet (fail)
            go_wp2_with fail
            have hk1 : (0 : Int) ≤ (j : Int) := by omega
            have hk2 : (j : Int) ≤ (j : Int) := by omega
            have hk3 : (j : Int) ≤ (c1 : Int) := by omega
            have hk4 : (j : Int) ≤ (c1 : Int) := by omega
            have hjk : j ≤ j := by omega
            have hjc : j ≤ c1 := by omega
            have HTL := Lib.hid (show j = ((dNamesUpto d j).take j).length by rw [List.length_take, length_dNamesUpto d j hk]; omega)
            have HDL := Lib.hid (show 0 = ((dNamesUpto d j).drop j).length by rw [List.length_drop, length_dNamesUpto d j hk]; omega)
            have HR1 := Lib.hid (HO.out.reads.take j)
            have HCK := Lib.hid hc1k
            have hcn0a := fun (m : Nat) (o : Obj) => (World.cell?_of_block (w := wr.drewN m) (w' := (wr.drewN m).alloc o) (a := ad.add (j * 2)) (Below.heap_alloc (wr.drewN m) o _ hadw)).trans (show (wr.drewN m).cell? (ad.add (j * 2)) = some (.string f.name) from hcn)
            clear hc1k
            go_region_held3 (fun w' => w'.cell? (ad.add (j * 2)) = some (.string f.name))
              (first | exact hcn4 | exact hcn3 | exact hcn2a _ | exact hcn2 | exact hcn0a _ _ | exact hcn)
              (first
                | (refine step_append_own (by rfl) (.tmp 31) (.tmp 34) 32 (by rfl) elemString Try.underlying32 (v := .slice none 0 0) (l := []) (by rfl) (Owns.nil _ _) ((dNamesUpto d j).take j) HTL.out j (by simp) (by rfl) (by first | exact HR1.out.below (fun _ _ => rfl) | exact HR1.out.below (fun q hq => Below.heap_alloc _ _ _ hq)) (by have := HTL.out; have := hk1000.out; simp; omega) ?_
                   intro A2 c2 w2 hown2 hgrow2 hat2
                   simp only [List.nil_append] at hown2
                   have hx2 : Ext wr w2 := Touch.grown (by first | exact (((Touch.refl _ wr).drewN _).drewN _).drew | exact ((Touch.refl _ wr).drewN _).alloc _ | exact ((Touch.refl _ wr).drewN _) | exact ((((Touch.refl _ wr).drewN _).drewN _).drew).alloc _) hgrow2 (fun q hq => by simp [Value.ownBlock] at hq)
                   have hob2 : ∀ q, (Value.slice A2 j c2).ownBlock = some q → wr.heap.size ≤ q := fun q hq => by
                     rcases hat2 with h1 | h1 <;> rw [h1] at hq <;> simp [Value.ownBlock] at hq
                     omega
                   have hcn2 : w2.cell? (ad.add (j * 2)) = some (.string f.name) := (World.cell?_of_block (hx2.block _ hadw id)).trans hcn
                   have hcn2a := fun o => (World.cell?_of_block (w := w2) (w' := w2.alloc o) (a := ad.add (j * 2)) (Below.heap_alloc w2 o _ (Nat.lt_of_lt_of_le hadw hx2.size))).trans hcn2
                   have hnm2 := fun (b : Nat) (h : _) => World.grownBy.blk (b := b) (o := .cells #[.string f.name] 9 (0, 0)) hgrow2 h (by simp [Value.ownBlock])
                   have HX2 := Lib.hid hx2
                   have HB2 := Lib.hid hob2
                   have HN2 := Lib.hid hnm2
                   have HO2 := Lib.hid hown2
                   clear hx2 hob2 hgrow2 hat2 hown2 hnm2
                   try clear hA9)
                | (refine step_append_own (by rfl) (.tmp 35) (.tmp 41) 32 (by rfl) elemString Try.underlying32 (v := .slice A2 j c2) (l := (dNamesUpto d j).take j) (by rfl) (by first | exact HO2.out.ext ((Touch.refl _ w2).alloc _) | exact HO2.out) [f.name] (by rfl) (j + 1) (show ((dNamesUpto d j).take j).length + 1 = j + 1 by rw [← HTL.out]) (by rfl) (by first | exact reads_block (x := f.name) (b := w2.heap.size) (heap_alloc_new w2 _) (w2.heap.size + 1) (by omega) | exact reads_block (x := f.name) (HN2.out _ (heap_alloc_new _ _)) (w2.heap.size + 1) (by have := HX2.out.size; simp; omega)) (by have := HTL.out; have := hk1000.out; simp; omega) ?_
                   intro A3 c3 w3 hown3 hgrow3 hat3
                   have hx3 : Ext wr w3 := Touch.grown (by first | exact HX2.out.alloc _ | exact HX2.out) hgrow3 (fun q hq => .inr (HB2.out q hq))
                   have hob3 : ∀ q, (Value.slice A3 (j + 1) c3).ownBlock = some q → wr.heap.size ≤ q := fun q hq => by
                     rcases hat3 with h1 | h1
                     · exact HB2.out q (h1 ▸ hq)
                     · rw [h1] at hq; injection hq with hq; have := HX2.out.size; (try simp at hq); omega
                   have hcn3 : w3.cell? (ad.add (j * 2)) = some (.string f.name) := (World.cell?_of_block (hx3.block _ hadw id)).trans hcn
                   have HX3 := Lib.hid hx3
                   have HB3 := Lib.hid hob3
                   have HO3 := Lib.hid hown3
                   clear hx3 hob3 hgrow3 hat3 hown3)
                | (refine step_append_own (by rfl) (.tmp 42) (.tmp 45) 32 (by rfl) elemString Try.underlying32 (v := .slice A3 (j + 1) c3) (l := (dNamesUpto d j).take j ++ [f.name]) (by rfl) HO3.out ((dNamesUpto d j).drop j) HDL.out (j + 1) (show ((dNamesUpto d j).take j ++ [f.name]).length + 0 = j + 1 by have := HTL.out; rw [List.length_append]; show _ + 1 + _ = _; omega) (by rfl) (HR2.out.below fun q hq => HX3.out.block q hq id) (by have := length_dNamesUpto d j hk; have := hk1000.out; simp; omega) ?_
                   intro A4 c4 w4 hown4 hgrow4 hat4
                   have hx4 : Ext wr w4 := Touch.grown HX3.out hgrow4 (fun q hq => .inr (HB3.out q hq))
                   have hob4 : ∀ q, (Value.slice A4 (j + 1) c4).ownBlock = some q → wr.heap.size ≤ q := fun q hq => by
                     rcases hat4 with h1 | h1
                     · exact HB3.out q (h1 ▸ hq)
                     · rw [h1] at hq; injection hq with hq; have := HX3.out.size; omega
                   have hcn4 : w4.cell? (ad.add (j * 2)) = some (.string f.name) := (World.cell?_of_block (hx4.block _ hadw id)).trans hcn
                   have HX4 := Lib.hid hx4
                   have HB4 := Lib.hid hob4
                   have HO4 := Lib.hid hown4
                   clear hx4 hob4 hgrow4 hat4 hown4))
            all_goals
              go_wp2
              go_roundw
              case rel =>
                have h4 := HO4.out
                rw [List.append_assoc, List.singleton_append, insName_at HP.out, ← dNames_take HF.out] at h4
                exact ⟨j + 1, A4, c4, by go_num, by omega, rfl, h4, HX.out.trans HX4.out, fun q hq => Nat.le_trans HX.out.size (HB4.out q hq)⟩
              case measure => simp [intOf]; omega
    · obtain rfl : k = d.length := by omega
      have hd0 := HO.out
      unfold dNamesUpto at hd0
      rw [List.take_length] at hd0
      have HD0 := Lib.hid hd0
      have HLN := Lib.hid (show (dNames d).length = d.length by have := length_dNamesUpto d d.length (Nat.le_refl _); unfold dNamesUpto at this; rwa [List.take_length] at this)
      clear hd0
      go_wp2
      go_ret
      exact ⟨A1, c1, by rw [HLN.out]; rfl, by rw [HLN.out]; exact HD0.out, HX.out, by rw [HLN.out]; exact HB.out⟩
end Go.Proofs.Ytalfbhhldfffkab
