/- Desk1: how a desk lies; the walks of its Builder's copyCheck, WriteString, String, Reset. (And behind it: DeskLib, Desk2, Desk6, Desk3, Desk4, Desk5.) -/
import Derived.Test.YtalfbhhldfffkaaGreatDoorGCodec
import Derived.Test.YtalfbhhldfffkaaGreatDoorGWorld
import Derived.Lib.Builder
import Derived.Lib.UnsafeStr
import Derived.Laws.Externs
import Derived.Shelf.LaysM
import Derived.Shelf.LaysC
import Derived.Shelf.Strconv.AtoiAll
import Derived.Shelf.Strconv.ErrVarAll
import Derived.Shelf.Strings.Search3
import Derived.Shelf.Strings.Count
import Derived.Shelf.Strings.Split
import Derived.Shelf.SlicesE.DeleteFunc
import Derived.Test.YtalfbhhldfffkaaGreatDoorGLine
import Derived.Test.YtalfbhhldfffkaaGreatDoorGDeskP
import Derived.Test.YtalfbhhldfffkaaGreatDoorGBasis
import Derived.Lib.AtoiAllCases
import Derived.Deep.DeepCutAuto
import Derived.Test.YtalfbhhldfffkaaGreatDoorGStory
import Derived.Test.YtalfbhhldfffkaaGreatDoorGStore
set_option maxHeartbeats 8000000
set_option maxRecDepth 100000
namespace Go.Proofs.YtalfbhhldfffkaaGreatDoor
open Go.RowKit
abbrev vNull : Value := .slice none 0 0
def deskCells (p v : Value) (gw : Nat) : Array Value := #[p, v, .pointer (some ⟨gw, 0, none⟩)]
abbrev BD (gd : Nat) : Rep (Array Value) := repBlock gd 44
abbrev OB : Rep (Value × List UInt8) := repOwn 5
abbrev DR (gd gw : Nat) : Rep (House × (Array Value × (Value × List UInt8))) := (repWorld gw).and ((BD gd).and OB)
def repTell (gd gw : Nat) : Rep (List UInt8 × House) where
 on w F z := ∃ p v, (p = .pointer none \/ p = .pointer (some ⟨gd, 0, none⟩)) /\ (z.1 = [] -> v = vNull) /\ (DR gd gw).on w F (z.2, (deskCells p v gw, (v, z.1)))
 lt := by
  rintro w F z ⟨p, v, _, _, h⟩;exact (DR gd gw).lt h
 keep := by
  rintro w w' F z ⟨p, v, hp, hv, h⟩ hk;exact ⟨p, v, hp, hv, (DR gd gw).keep h hk⟩
def repDesk (gd gw : Nat) : Rep House where
 on w F h := ∃ p v, ((repWorld gw).and (BD gd)).on w F (h, deskCells p v gw)
 lt := by
  rintro w F h ⟨p, v, hh⟩;exact ((repWorld gw).and (BD gd)).lt hh
 keep := by
  rintro w w' F h ⟨p, v, hh⟩ hk;exact ⟨p, v, ((repWorld gw).and (BD gd)).keep hh hk⟩
section
variable {X : Type} {S : Rep X} {x : X} {W w w' : World} {gd gw : Nat} {h : House} {t t' : List UInt8} {F : Nat -> Prop}
structure DeskAt (w : World) (gd gw : Nat) (p v : Value) (t : List UInt8) : Prop where
 ptr : p = .pointer none \/ p = .pointer (some ⟨gd, 0, none⟩)
 nil : t = [] -> v = vNull
 cell : w.heap[gd]? = some (.cells (deskCells p v gw) 44 (0, 0))
 own : Owns w 5 v t
 apart : v.ownBlock ≠ some gd
theorem tell_on (hh : (repTell gd gw).on w F (t, h)) : ∃ p v, DeskAt w gd gw p v t /\
 (∃ F', (repWorld gw).on w F' h /\ ∀ h' w', Moved (repWorld gw) w F' h' w' -> Moved (repTell gd gw) w F (t, h') w') /\
 (∀ p' v' t' w', DeskAt w' gd gw p' v' t' -> Touch (fun k => k = gd \/ v.ownBlock = some k) w w' -> (∀ k, v'.ownBlock = some k -> v.ownBlock = some k \/ w.heap.size <= k) -> Moved (repTell gd gw) w F (t', h) w') := by
 obtain ⟨p, v, hp, hv, F1, F2, h1, ⟨F3, F4, h3, h4, hd34, hF2⟩, hd, hF⟩ := hh;have h3' := h3;have h4' := h4;have hne : v.ownBlock ≠ some gd := fun e => hd34 gd ((h3.1 gd).2 rfl) ((h4.1 gd).2 e);refine ⟨p, v, ⟨hp, hv, h3.2, h4.2, hne⟩, ⟨F1, h1, fun h' w' ⟨F1', g1, g2, g3⟩ => ?_⟩, fun p' v' t' w' hA ht hf => ?_⟩
 ·have hk : ∀ k, F2 k -> w'.heap[k]? = w.heap[k]? := fun k hk => g2.block k (((BD gd).and OB).lt (show ((BD gd).and OB).on w F2 (deskCells p v gw, (v, t)) from ⟨F3, F4, h3, h4, hd34, hF2⟩) k hk) (fun h => hd k h hk);have hon : ((BD gd).and OB).on w' F2 (deskCells p v gw, (v, t)) := ((BD gd).and OB).keep (show ((BD gd).and OB).on w F2 (deskCells p v gw, (v, t)) from ⟨F3, F4, h3, h4, hd34, hF2⟩) hk;refine ⟨fun k => F1' k \/ F2 k, ⟨p, v, hp, hv, F1', F2, g1, hon, fun k a b => ?_, fun _ => Iff.rfl⟩, g2.mono fun k hk => .inl ((hF k).2 (.inl hk)), fun k hk => ?_⟩
  ·rcases g3 k a with a | a
   ·exact hd k a b
   ·have := ((BD gd).and OB).lt (show ((BD gd).and OB).on w F2 (deskCells p v gw, (v, t)) from ⟨F3, F4, h3, h4, hd34, hF2⟩) k b;omega
  ·rcases hk with hk | hk
   ·rcases g3 k hk with a | a
    ·exact .inl ((hF k).2 (.inl a))
    ·exact .inr a
   ·exact .inl ((hF k).2 (.inr hk))
 ·have hT : ∀ k, (k = gd \/ v.ownBlock = some k) -> F2 k := fun k hk => (hF2 k).2 (by
   rcases hk with hk | hk
   ·exact .inl ((h3.1 k).2 hk)
   ·exact .inr ((h4.1 k).2 hk))
  have hw' : (repWorld gw).on w' F1 h := (repWorld gw).keep h1 fun k hk => ht.block k ((repWorld gw).lt h1 k hk) (fun e => hd k hk (hT k e));have hlt := (repWorld gw).lt h1;have hgd : gd < w.heap.size := (aG h3.2).1;refine ⟨fun k => F1 k \/ (k = gd \/ v'.ownBlock = some k), ⟨p', v', hA.ptr, hA.nil, F1, fun k => k = gd \/ v'.ownBlock = some k, hw', ⟨fun k => k = gd, fun k => v'.ownBlock = some k, ⟨fun _ => Iff.rfl, hA.cell⟩, ⟨fun _ => Iff.rfl, hA.own⟩, fun k a b => hA.apart (a ▸ b), fun _ => Iff.rfl⟩, fun k a b => ?_, fun _ => Iff.rfl⟩, ht.mono fun k hk => .inl ((hF k).2 (.inr (hT k hk))), fun k hk => ?_⟩
  ·rcases b with b | b
   ·exact hd k a (hT k (.inl b))
   ·rcases hf k b with b | b
    ·exact hd k a (hT k (.inr b))
    ·have := hlt k a; omega
  ·rcases hk with hk | hk | hk
   ·exact .inl ((hF k).2 (.inl hk))
   ·exact .inl ((hF k).2 (.inr (hT k (.inl hk))))
   ·rcases hf k hk with b | b
    ·exact .inl ((hF k).2 (.inr (hT k (.inr b))))
    ·exact .inr b
end
theorem sizeB : ∃ j, Tryz.prog.info? 42 = some j /\ j.size ≠ 0 := by
 obtain ⟨j, hj, hs⟩ := Option.map_eq_some_iff.1 (show (Tryz.prog.info? 42).map (·.size) = some 2 by kernel_rfl);exact ⟨j, hj, by rw [hs]; decide⟩
theorem liesB : liesAt Tryz.prog Tryz.prog.depth 44 (3 / Tryz.prog.cellsOf 44) 0 42 1 = true := by kernel_rfl
theorem cellsB : Tryz.prog.cellsOf 5 = 1 := by kernel_rfl
theorem deskShape {w : World} {gd gw : Nat} {p v : Value} (h : w.heap[gd]? = some (.cells (deskCells p v gw) 44 (0, 0))) : w.shape? gd = some (44, 3) := by
 simp [World.shape?, h, deskCells]
theorem desk_copyCheck (w : World) (gd gw : Nat) (p v : Value) (hp : p = .pointer none \/ p = .pointer (some ⟨gd, 0, none⟩)) (hb : w.heap[gd]? = some (.cells (deskCells p v gw) 44 (0, 0))) :
 Calls Tryz.prog 82 #[.pointer (some ⟨gd, 0, none⟩)] w fun e w' => e = .returned (.tuple #[]) /\ w'.heap[gd]? = some (.cells (deskCells (.pointer (some ⟨gd, 0, none⟩)) v gw) 44 (0, 0)) /\ Touch (fun k => k = gd) w w' := by
 obtain ⟨j, hj, hjs⟩ := sizeB;have hc0 := (cell_of hb 0).trans (show (deskCells p v gw)[0]? = some p from rfl);have hf0 := frozen_of hb 0;rcases hp with rfl | rfl
 ·have h1 : (convert 39 177 (.pointer (some ⟨gd, 0, none⟩))).run Tryz.prog w = .ok (.pointer (some ⟨gd, 0, none⟩)) w := Lib.run_to_unsafe w ⟨gd, 0, none⟩ Tryz.underlying39 Tryz.underlying177 hj hjs (deskShape hb) (show 0 < 3 by decide);have h2 : (convert 177 39 (.pointer (some ⟨gd, 0, none⟩))).run Tryz.prog w = .ok (.pointer (some ⟨gd, 0, none⟩)) w := Lib.run_from_unsafe w ⟨gd, 0, none⟩ Tryz.underlying177 Tryz.underlying39 hj (deskShape hb) liesB;have hb1 := setCell_heap hb 0 (.pointer (some ⟨gd, 0, none⟩));have ht1 := (Touch.refl (fun k => k = gd) w).setCell (a := ⟨gd, 0, none⟩) (.inl rfl) (.pointer (some ⟨gd, 0, none⟩));go_enter Tryz.func82, Tryz.ntmps82
  go_wp2
  rw [run_callFunc_extern Tryz.func123 (by kernel_rfl) (by kernel_rfl) (by kernel_rfl) (e := Extern.AbiNoEscape.same) (by kernel_rfl)];rw [Lib.run_noEscape];simp only [Result.andThen];rw [Oper.upon_value];go_wp2
  go_end0
  exact ⟨rfl, hb1, ht1⟩
 ·go_enter Tryz.func82, Tryz.ntmps82
  go_wp2
  rw [Lib.run_neq_ptr_same w _ Tryz.underlying39 hj];go_wp2
  go_end0
  exact ⟨rfl, hb, Touch.refl _ _⟩
theorem wpList_append_told {P : Program} {ops : Array Oper} {rest : List Oper} {o : Oper} {a : Act} {w : World} {Q : Exit -> Act -> World -> Prop} (hgd : o.guard = none) (s x : Operand) (t u : TypeId)
 (ho : o.op = .call { callee := .builtin .append, args := #[s, x], argTypes := #[t, u] }) {e : TypeId} (hE : (P.info? e).map (fun i => (i.zero, i.size, i.bytes)) = some (some (.int .u8 0), 1, 1)) (ht : P.underlying t = some (.slice e)) (hu : P.underlying u = some .string)
 {v : Value} {l : List UInt8} (hs : a.eval s = v) (hown : Owns w e v l) (str : ByteArray) (hx : a.eval x = .string str)
 (hsz : l.length + str.size <= 140737488355328)
 (h : ∀ v' w', Owns w' e v' (l ++ str.toList) -> w.grownBy w' v.ownBlock -> (v'.ownBlock = v.ownBlock \/ v'.ownBlock = some w.heap.size) -> ((l = [] -> v = vNull) -> l ++ str.toList = [] -> v' = vNull) ->
  wpList P ops Q rest (a.put o.dst v') w') : wpList P ops Q (o :: rest) a w := by
 refine wpList_plain hgd fun K hK => ?_;obtain ⟨A', c', w', hr, h2, h3, h4⟩ := run_append_text (P := P) hE t u o.type ht hu hown str hsz
 have h5 : (l = [] -> v = vNull) -> l ++ str.toList = [] -> Value.slice A' (l.length + str.size) c' = vNull := fun hv hl => by
  obtain ⟨h6, h7⟩ := List.append_eq_nil_iff.1 hl;have h8 : str.size = 0 := by rw [<- length_toList', h7]; rfl
  obtain ⟨i, hi, hz, hss, hb⟩ : ∃ i, P.info? e = some i /\ i.zero = some (.int .u8 0) /\ i.size = 1 /\ i.bytes = 1 := by
   cases hq : P.info? e with
   | none => rw [hq] at hE; cases hE
   | some i => rw [hq] at hE; simp at hE; exact ⟨i, rfl, hE⟩
  obtain ⟨v1, w1, hr1, _, _, h9⟩ := Lib.run_append_own_string (P := P) w 0 t u o.type e i ht hu hi hz hss hb v l.length (flat l) hown str (by unfold maxLen; omega) hsz (Nat.zero_le _);rw [hr] at hr1;injection hr1 with hr1 _;rw [hr1];exact h9.2 ⟨hv h6, h8⟩
 unfold Oper.wp execOp;simp only [ho, resolve, invoke, builtin, Sem.run_bind, Sem.run_pure, Result.andThen_ok, List.map_toArray, List.map_cons, List.map_nil, hs, hx, hr];exact hK _ _ (h _ w' h2 h3 h4 h5)
def WrotePost (w : World) (gd gw : Nat) (v : Value) (t : List UInt8) (e : Ending) (w' : World) (n : Nat) : Prop :=
 e = .returned (.tuple #[.int .i64 n, .nilIface]) /\ ∃ v', DeskAt w' gd gw (.pointer (some ⟨gd, 0, none⟩)) v' t /\ Touch (fun k => k = gd \/ v.ownBlock = some k) w w' /\ (∀ k, v'.ownBlock = some k -> v.ownBlock = some k \/ w.heap.size <= k)
theorem desk_write (w : World) (gd gw : Nat) (p v : Value) (t : List UInt8) (s : ByteArray) (h : DeskAt w gd gw p v t) (hs : t.length + s.size <= 140737488355328) :
 Calls Tryz.prog 52 #[.pointer (some ⟨gd, 0, none⟩), .string s] w fun e w' => WrotePost w gd gw v (t ++ s.toList) e w' s.size := by
 have H := lh h;clear h;go_enter Tryz.func52, Tryz.ntmps52
 go_wp2_with fail
 refine (desk_copyCheck w gd gw p v H.out.ptr H.out.cell).mono ?_;rintro e w1 ⟨rfl, hb1, ht1⟩;have hown1 : Owns w1 5 v t := H.out.own.touch ht1 fun k hk e => H.out.apart (e ▸ hk);have hc1 := (cell_of hb1 1).trans (show (deskCells (.pointer (some ⟨gd, 0, none⟩)) v gw)[1]? = some v from rfl);go_wp2_with (at_builtin; refine wpList_append_told rfl (.tmp 12) (.tmp 13) 40 9 rfl byteInfo Tryz.underlying40 Tryz.underlying9 rfl hown1 s rfl hs ?_)
 intro v2 w2 hown2 hgrow2 hat2 hnil2;obtain ⟨A2, c2, hv2, _⟩ := hown2.form;generalize (t ++ s.toList).length = n2 at hv2;subst hv2;have hb2 := World.grownBy.blk hgrow2 hb1 H.out.apart;have hf2 := frozen_of hb2 1;have hc2 := cell_of hb2 1;have hb3 := setCell_heap hb2 1 (.slice A2 n2 c2);have hne2 : (Value.slice A2 n2 c2).ownBlock ≠ some gd := hown2.elem hb2 (by decide);have hown3 := hown2.setCell (a := ⟨gd, 1, none⟩) hne2 (.slice A2 n2 c2);have ht2 : Touch (fun k => k = gd \/ v.ownBlock = some k) w w2 := (ht1.mono fun k hk => .inl (.inl hk)).grown hgrow2 fun k hk => .inl (.inr hk);have ht3 : Touch (fun k => k = gd \/ v.ownBlock = some k) w (w2.setCell ⟨gd, 1, none⟩ (.slice A2 n2 c2)) := ht2.setCell (.inl (.inl rfl)) _
 have hfr : ∀ k, (Value.slice A2 n2 c2).ownBlock = some k -> v.ownBlock = some k \/ w.heap.size <= k := fun k hk => by
  rcases hat2 with e | e
  ·exact .inl (e ▸ hk)
  ·rw [e] at hk; injection hk with hk; exact .inr (by have := ht1.size; omega)
 have HA := lh (show DeskAt (w2.setCell ⟨gd, 1, none⟩ (.slice A2 n2 c2)) gd gw (.pointer (some ⟨gd, 0, none⟩)) (.slice A2 n2 c2) (t ++ s.toList) from ⟨.inr rfl, fun hl => hnil2 H.out.nil (List.append_eq_nil_iff.1 hl).1 (List.append_eq_nil_iff.1 hl).2, hb3, hown3, hne2⟩);have HT := lh ht3;have HF := lh hfr;clear hb3 hown3 ht2 ht3 hfr hown2 hgrow2 hat2 hnil2 hown1 ht1;go_wp2
 go_ret2
 exact ⟨rfl, _, HA.out, HT.out, HF.out⟩
theorem desk_reset (w : World) (gd gw : Nat) (p v : Value) (hb : w.heap[gd]? = some (.cells (deskCells p v gw) 44 (0, 0))) :
 Calls Tryz.prog 14 #[.pointer (some ⟨gd, 0, none⟩)] w fun e w' => e = .returned (.tuple #[]) /\ w'.heap[gd]? = some (.cells (deskCells (.pointer none) vNull gw) 44 (0, 0)) /\ Touch (fun k => k = gd) w w' := by
 have hc0 := cell_of hb 0;have hf0 := frozen_of hb 0;have hb1 := setCell_heap hb 0 (.pointer none);have hc1 := cell_of hb1 1;have hf1 := frozen_of hb1 1;have hb2 := setCell_heap hb1 1 vNull;have HT := lh (((Touch.refl (fun k => k = gd) w).setCell (a := ⟨gd, 0, none⟩) (.inl rfl) (.pointer none)).setCell (a := ⟨gd, 1, none⟩) (.inl rfl) vNull);have HB := lh hb2;clear hb2;go_enter Tryz.func14, Tryz.ntmps14
 go_wp2
 go_end0
 exact ⟨rfl, HB.out, HT.out⟩
theorem desk_string_nil (w : World) (gd gw : Nat) (p : Value) (hb : w.heap[gd]? = some (.cells (deskCells p vNull gw) 44 (0, 0))) :
 Calls Tryz.prog 16 #[.pointer (some ⟨gd, 0, none⟩)] w fun e w' => e = .returned (.string (mkStr [])) /\ Ext w w' := by
 have hUS : (Builtin.unsafeString_ #[90, 3] 9 #[.pointer none, .int .i64 0]).run Tryz.prog w.drew = .ok (.string .empty) w.drew := Lib.run_unsafeString_none w.drew _ _ _ none;have c1 : w.drew.cell? ⟨gd, 1, none⟩ = some vNull := cell_of (w := w.drew) (show w.drew.heap[gd]? = _ from hb) 1;have hSD : (Builtin.unsafeSliceData_ #[40] 90 #[vNull]).run Tryz.prog w.drew = .ok (.pointer none) w.drew := rfl;have HX := lh (show Ext w w.drew from Touch.drew (Touch.refl _ w));clear hb;go_enter Tryz.func16, Tryz.ntmps16
 go_wp2
 go_region
 all_goals (go_wp2; go_ret; exact ⟨rfl, HX.out⟩)
theorem touch_freeze (w : World) (g n : Nat) : Touch (fun k => k = g) w (w.freeze ⟨g, 0, none⟩ n) := by
 unfold World.freeze;split
 ·exact Touch.refl _ _
 ·exact ⟨rfl, rfl, rfl, by simp, fun k _ hk => by
   simp only [Array.getElem?_modify];rw [if_neg (fun e => hk e.symm)]⟩
theorem desk_string_some (w : World) (gd gw : Nat) (p v : Value) (t : List UInt8) (h : DeskAt w gd gw p v t) (h0 : t ≠ []) :
 Calls Tryz.prog 16 #[.pointer (some ⟨gd, 0, none⟩)] w fun e w' => e = .returned (.string (mkStr t)) /\ w'.heap[gd]? = some (.cells (deskCells p v gw) 44 (0, 0)) /\ Touch (fun k => v.ownBlock = some k) w w' := by
 have hl0 : t.length ≠ 0 := by simpa using h0
 obtain ⟨g, cap, cur, rfl, hg, hnc, hcm, hcs, htake⟩ : ∃ g cap cur, v = .slice (some ⟨g, 0, none⟩) t.length cap /\ w.heap[g]? = some (.cells cur 5 (0, 0)) /\ t.length <= cap /\ cap <= maxLen /\ cur.size = cap * 1 /\ cur.toList.take (t.length * 1) = flat t := by
  rcases h.own.2 with ⟨_, hz⟩ | ⟨g, cap, cur, hv, _, r⟩
  ·exact absurd hz hl0
  ·exact ⟨g, cap, cur, hv, r⟩
 have hne : g ≠ gd := fun e => h.apart (by subst e; rfl);have c1 : w.drew.cell? ⟨gd, 1, none⟩ = some (.slice (some ⟨g, 0, none⟩) t.length cap) := cell_of (w := w.drew) (show w.drew.heap[gd]? = _ from h.cell) 1
 have hSD : (Builtin.unsafeSliceData_ #[40] 90 #[.slice (some ⟨g, 0, none⟩) t.length cap]).run Tryz.prog w.drew = .ok (.pointer (some ⟨g, 0, none⟩)) w.drew :=
  Lib.run_unsafeSliceData_row _ _ _ _ _ _ (by omega)
 have hUS : (Builtin.unsafeString_ #[90, 3] 9 #[.pointer (some ⟨g, 0, none⟩), .int .i64 t.length]).run Tryz.prog w.drew = .ok (.string (mkStr t)) (w.drew.freeze ⟨g, 0, none⟩ t.length) := by
  refine Lib.run_unsafeString_row w.drew 90 3 9 5 Tryz.underlying90 cellsB g cur.size (by have hg' : w.drew.heap[g]? = some (.cells cur 5 (0, 0)) := hg; simp [World.shape?, hg']) t h0 (by omega) (by unfold maxLen at hcm; omega) ?_;intro j x hx;have := h.own.cells (g := g) rfl j (.int .u8 x.toNat) (by rw [flat_bytes]; simp [hx]);exact this
 have ht : Touch (fun k => (Value.slice (some ⟨g, 0, none⟩) t.length cap).ownBlock = some k) w (w.drew.freeze ⟨g, 0, none⟩ t.length) :=
  (Touch.drew (Touch.refl _ w)).then (touch_freeze w.drew g t.length) fun k hk => .inl (by rw [hk]; rfl)
 have hb : (w.drew.freeze ⟨g, 0, none⟩ t.length).heap[gd]? = some (.cells (deskCells p (.slice (some ⟨g, 0, none⟩) t.length cap) gw) 44 (0, 0)) :=
  ((touch_freeze w.drew g t.length).block gd (aG h.cell).1 fun e => hne e.symm).trans h.cell
 have HT := lh ht;have HB := lh hb;clear h ht hb hg htake hcs hcm hnc;go_enter Tryz.func16, Tryz.ntmps16
 go_wp2
 go_region
 all_goals (go_wp2; go_ret; exact ⟨rfl, HB.out, HT.out⟩)
end Go.Proofs.YtalfbhhldfffkaaGreatDoor
namespace Go.Proofs.YtalfbhhldfffkaaGreatDoor
open Go.Shelf Go.RowKit
def laysC172_ren : Go.Shelf.Ren := ⟨fun | 172 => 34 | 244 => 62 | 245 => 63 | 247 => 104 | 279 => 105 | 280 => 106 | 281 => 107 | 282 => 108 | 287 => 142 | 316 => 143 | 171 => 54 | 205 => 144 | 321 => 162 | 322 => 163 | 243 => 84 | 246 => 125 | 283 => 150 | 284 => 151 | 285 => 152 | 286 => 153 | 129 => 165 | 317 => 164 | 318 => 166 | 319 => 167 | 320 => 168 | 337 => 177 | 338 => 178 | n => n, fun | 9 => 9 | 3 => 3 | 75 => 94 | 76 => 95 | 4 => 4 | 5 => 5 | 167 => 159 | 37 => 40 | 0 => 0 | 85 => 160 | 2 => 2 | 168 => 162 | 53 => 192 | 175 => 193 | 46 => 147 | 210 => 197 | 127 => 90 | 145 => 222 | 143 => 220 | 21 => 21 | 171 => 202 | 173 => 205 | 212 => 228 | 51 => 172 | 20 => 20 | 213 => 229 | 232 => 244 | 233 => 245 | 80 => 51 | n => n, fun | 15 => 1 | 16 => 2 | 17 => 5 | 18 => 6 | 19 => 7 | n => n⟩
theorem laysC172 : Go.Proofs.LaysC.n172 Tryz.prog laysC172_ren := {
 mixed := by kernel_rfl
 f129 := Tryz.func165.trans (congrArg some (by kernel_rfl))
 f171 := Tryz.func54.trans (congrArg some (by kernel_rfl))
 f172 := Tryz.func34.trans (congrArg some (by kernel_rfl))
 f205 := Tryz.func144.trans (congrArg some (by kernel_rfl))
 f243 := Tryz.func84.trans (congrArg some (by kernel_rfl))
 f244 := Tryz.func62.trans (congrArg some (by kernel_rfl))
 f245 := Tryz.func63.trans (congrArg some (by kernel_rfl))
 f246 := Tryz.func125.trans (congrArg some (by kernel_rfl))
 f247 := Tryz.func104.trans (congrArg some (by kernel_rfl))
 f279 := Tryz.func105.trans (congrArg some (by kernel_rfl))
 f280 := Tryz.func106.trans (congrArg some (by kernel_rfl))
 f281 := Tryz.func107.trans (congrArg some (by kernel_rfl))
 f282 := Tryz.func108.trans (congrArg some (by kernel_rfl))
 f283 := Tryz.func150.trans (congrArg some (by kernel_rfl))
 f284 := Tryz.func151.trans (congrArg some (by kernel_rfl))
 f285 := Tryz.func152.trans (congrArg some (by kernel_rfl))
 f286 := Tryz.func153.trans (congrArg some (by kernel_rfl))
 f287 := Tryz.func142.trans (congrArg some (by kernel_rfl))
 f316 := Tryz.func143.trans (congrArg some (by kernel_rfl))
 f317 := Tryz.func164.trans (congrArg some (by kernel_rfl))
 f318 := Tryz.func166.trans (congrArg some (by kernel_rfl))
 f319 := Tryz.func167.trans (congrArg some (by kernel_rfl))
 f320 := Tryz.func168.trans (congrArg some (by kernel_rfl))
 f321 := Tryz.func162.trans (congrArg some (by kernel_rfl))
 f322 := Tryz.func163.trans (congrArg some (by kernel_rfl))
 f337 := Tryz.func177.trans (congrArg some (by kernel_rfl))
 f338 := Tryz.func178.trans (congrArg some (by kernel_rfl))
 t0 := Tryz.underlying0
 a0 := Tryz.isAgg0
 z0 := Tryz.sizeOf0
 v0 := Tryz.zeroValue0
 t2 := Tryz.underlying2
 a2 := Tryz.isAgg2
 z2 := Tryz.sizeOf2
 v2 := Tryz.zeroValue2
 t3 := Tryz.underlying3
 a3 := Tryz.isAgg3
 z3 := Tryz.sizeOf3
 v3 := Tryz.zeroValue3
 t4 := Tryz.underlying4
 a4 := Tryz.isAgg4
 z4 := Tryz.sizeOf4
 v4 := Tryz.zeroValue4
 t5 := Tryz.underlying5
 a5 := Tryz.isAgg5
 z5 := Tryz.sizeOf5
 v5 := Tryz.zeroValue5
 t9 := Tryz.underlying9
 a9 := Tryz.isAgg9
 z9 := Tryz.sizeOf9
 v9 := Tryz.zeroValue9
 t20 := Tryz.underlying20
 a20 := Tryz.isAgg20
 z20 := Tryz.sizeOf20
 v20 := Tryz.zeroValue20
 t21 := Tryz.underlying21
 a21 := Tryz.isAgg21
 z21 := Tryz.sizeOf21
 v21 := Tryz.zeroValue21
 t37 := Tryz.underlying40
 a37 := Tryz.isAgg40
 z37 := Tryz.sizeOf40
 v37 := Tryz.zeroValue40
 t46 := Tryz.underlying147
 a46 := Tryz.isAgg147
 z46 := Tryz.sizeOf147
 v46 := Tryz.zeroValue147
 t51 := Tryz.underlying172
 a51 := Tryz.isAgg172
 z51 := Tryz.sizeOf172
 v51 := Tryz.zeroValue172
 t53 := Tryz.underlying192
 a53 := Tryz.isAgg192
 z53 := Tryz.sizeOf192
 v53 := Tryz.zeroValue192
 t75 := Tryz.underlying94
 a75 := Tryz.isAgg94
 z75 := Tryz.sizeOf94
 v75 := Tryz.zeroValue94
 t76 := Tryz.underlying95
 a76 := Tryz.isAgg95
 z76 := Tryz.sizeOf95
 v76 := Tryz.zeroValue95
 t85 := Tryz.underlying160
 a85 := Tryz.isAgg160
 z85 := Tryz.sizeOf160
 v85 := Tryz.zeroValue160
 t127 := Tryz.underlying90
 a127 := Tryz.isAgg90
 z127 := Tryz.sizeOf90
 v127 := Tryz.zeroValue90
 t143 := Tryz.underlying220
 a143 := Tryz.isAgg220
 z143 := Tryz.sizeOf220
 v143 := Tryz.zeroValue220
 t145 := Tryz.underlying222
 a145 := Tryz.isAgg222
 z145 := Tryz.sizeOf222
 v145 := Tryz.zeroValue222
 t167 := Tryz.underlying159
 a167 := Tryz.isAgg159
 z167 := Tryz.sizeOf159
 v167 := Tryz.zeroValue159
 t168 := Tryz.underlying162
 a168 := Tryz.isAgg162
 z168 := Tryz.sizeOf162
 v168 := Tryz.zeroValue162
 t171 := Tryz.underlying202
 a171 := Tryz.isAgg202
 z171 := Tryz.sizeOf202
 v171 := Tryz.zeroValue202
 t173 := Tryz.underlying205
 a173 := Tryz.isAgg205
 z173 := Tryz.sizeOf205
 v173 := Tryz.zeroValue205
 t175 := Tryz.underlying193
 a175 := Tryz.isAgg193
 z175 := Tryz.sizeOf193
 v175 := Tryz.zeroValue193
 t210 := Tryz.underlying197
 a210 := Tryz.isAgg197
 z210 := Tryz.sizeOf197
 v210 := Tryz.zeroValue197
 t212 := Tryz.underlying228
 a212 := Tryz.isAgg228
 z212 := Tryz.sizeOf228
 v212 := Tryz.zeroValue228
 t213 := Tryz.underlying229
 a213 := Tryz.isAgg229
 z213 := Tryz.sizeOf229
 t232 := Tryz.underlying244
 a232 := Tryz.isAgg244
 z232 := Tryz.sizeOf244
 v232 := Tryz.zeroValue244
 t233 := Tryz.underlying245
 a233 := Tryz.isAgg245
 z233 := Tryz.sizeOf245
 v233 := Tryz.zeroValue245
 g15 := by kernel_rfl
 g16 := by kernel_rfl
 g17 := by kernel_rfl
 g18 := by kernel_rfl
 g19 := by kernel_rfl
 t80 := Tryz.underlying51
 a80 := Tryz.isAgg51
 z80 := Tryz.sizeOf51
 v80 := Tryz.zeroValue51
 i0 := by kernel_rfl
 i2 := by kernel_rfl
 i3 := by kernel_rfl
 i4 := by kernel_rfl
 i5 := by kernel_rfl
 i9 := by kernel_rfl
 i20 := by kernel_rfl
 i21 := by kernel_rfl
 i37 := by kernel_rfl
 i46 := by kernel_rfl
 i51 := by kernel_rfl
 i53 := by kernel_rfl
 i75 := by kernel_rfl
 i76 := by kernel_rfl
 i80 := by kernel_rfl
 i85 := by kernel_rfl
 i127 := by kernel_rfl
 i143 := by kernel_rfl
 i145 := by kernel_rfl
 i167 := by kernel_rfl
 i168 := by kernel_rfl
 i171 := by kernel_rfl
 i173 := by kernel_rfl
 i175 := by kernel_rfl
 i210 := by kernel_rfl
 i212 := by kernel_rfl
 i232 := by kernel_rfl
 i233 := by kernel_rfl
 m15 := by kernel_rfl
 m16 := by kernel_rfl
 m17 := by kernel_rfl
 m18 := by kernel_rfl
 m19 := by kernel_rfl
 c0 := by kernel_rfl
 c2 := by kernel_rfl
 c3 := by kernel_rfl
 c4 := by kernel_rfl
 c5 := by kernel_rfl
 c9 := by kernel_rfl
 c20 := by kernel_rfl
 c21 := by kernel_rfl
 c37 := by kernel_rfl
 c46 := by kernel_rfl
 c51 := by kernel_rfl
 c53 := by kernel_rfl
 c75 := by kernel_rfl
 c76 := by kernel_rfl
 c80 := by kernel_rfl
 c85 := by kernel_rfl
 c127 := by kernel_rfl
 c143 := by kernel_rfl
 c145 := by kernel_rfl
 c167 := by kernel_rfl
 c168 := by kernel_rfl
 c171 := by kernel_rfl
 c173 := by kernel_rfl
 c175 := by kernel_rfl
 c210 := by kernel_rfl
 c212 := by kernel_rfl
 c213 := by kernel_rfl
 c232 := by kernel_rfl
 c233 := by kernel_rfl }
open Go.RowKit in
theorem strconv_Atoi_ok (s : ByteArray) (hmax : s.size <= 9223372036854775806) (v : Int) (h : Lib.atoiAll s.data.toList = .ok v) (w : World) :
 Calls Tryz.prog 34 #[.string s] w fun e w' => e = .returned (.tuple #[.int .i64 v, .nilIface]) /\ (w' = w \/ ∃ t, w' = Lib.bytesWorld w 5 t) := Any.strconv_Atoi_ok laysC172 s hmax v h w
open Go.RowKit in
theorem strconv_Atoi_range_var (s : ByteArray) (hlim : s.size <= 281474976710656) (h : Lib.atoiAll s.data.toList = .range) (tp : TypeId) (p : Value) (w : World) (hvar : w.var? Tryz.prog "strconv.ErrRange" = some #[.iface tp p]) :
 Calls Tryz.prog 34 #[.string s] w fun e w' => ∃ N, e = .returned (.tuple #[.int .i64 (Lib.atoiSat s.data.toList), .iface 162 (.pointer (some ⟨N, 0, none⟩))]) /\ w.heap.size <= N /\ w'.heap[N]? = some (.cells #[.string ⟨#[65, 116, 111, 105]⟩, .string s, .iface tp p] 197 (0, 0)) /\ Below w.heap.size w w' := Any.strconv_Atoi_range_var laysC172 s hlim h tp p w hvar
def lays144_ren : Go.Shelf.Ren := ⟨fun | 144 => 13 | 143 => 22 | 219 => 47 | 217 => 74 | 225 => 75 | 224 => 76 | 267 => 77 | 266 => 118 | 314 => 119 | n => n, fun | 9 => 9 | 4 => 4 | 3 => 3 | 5 => 5 | 46 => 147 | 146 => 173 | 51 => 172 | n => n, fun | 1 => 0 | n => n⟩
theorem lays144 : Go.Proofs.Lays.n144 Tryz.prog lays144_ren := {
 mixed := by kernel_rfl
 f143 := Tryz.func22.trans (congrArg some (by kernel_rfl))
 f144 := Tryz.func13.trans (congrArg some (by kernel_rfl))
 f217 := Tryz.func74.trans (congrArg some (by kernel_rfl))
 f219 := Tryz.func47.trans (congrArg some (by kernel_rfl))
 f224 := Tryz.func76.trans (congrArg some (by kernel_rfl))
 f225 := Tryz.func75.trans (congrArg some (by kernel_rfl))
 f266 := Tryz.func118.trans (congrArg some (by kernel_rfl))
 f267 := Tryz.func77.trans (congrArg some (by kernel_rfl))
 f314 := Tryz.func119.trans (congrArg some (by kernel_rfl))
 t3 := Tryz.underlying3
 a3 := Tryz.isAgg3
 z3 := Tryz.sizeOf3
 v3 := Tryz.zeroValue3
 t4 := Tryz.underlying4
 a4 := Tryz.isAgg4
 z4 := Tryz.sizeOf4
 v4 := Tryz.zeroValue4
 t5 := Tryz.underlying5
 a5 := Tryz.isAgg5
 z5 := Tryz.sizeOf5
 v5 := Tryz.zeroValue5
 t9 := Tryz.underlying9
 a9 := Tryz.isAgg9
 z9 := Tryz.sizeOf9
 v9 := Tryz.zeroValue9
 t46 := Tryz.underlying147
 a46 := Tryz.isAgg147
 z46 := Tryz.sizeOf147
 v46 := Tryz.zeroValue147
 t51 := Tryz.underlying172
 a51 := Tryz.isAgg172
 z51 := Tryz.sizeOf172
 v51 := Tryz.zeroValue172
 t146 := Tryz.underlying173
 a146 := Tryz.isAgg173
 z146 := Tryz.sizeOf173
 v146 := Tryz.zeroValue173
 g1 := by kernel_rfl }
open Go.RowKit Go.Lib in
open Go.RowKit Go.Lib in
theorem strings_Contains (s sub : ByteArray) (m : Int) (w : World) (hs : s.size < 4294967281) (hm : w.cell? ⟨0, 0, none⟩ = some (.int .i64 m)) :
 Calls Tryz.prog 13 #[.string s, .string sub] w fun e w' => e = .returned (.bool (Lib.contains s.data.toList sub.data.toList)) /\ w' = w := Any.strings_Contains lays144 s sub m w hs hm
def lays146_ren : Go.Shelf.Ren := ⟨fun | 146 => 30 | 221 => 48 | 268 => 78 | 138 => 79 | 143 => 22 | 195 => 120 | 197 => 121 | 218 => 122 | 219 => 47 | 260 => 148 | 217 => 74 | 225 => 75 | 224 => 76 | 267 => 77 | 266 => 118 | 314 => 119 | n => n, fun | 9 => 9 | 31 => 22 | 3 => 3 | 4 => 4 | 0 => 0 | 105 => 175 | 21 => 21 | 5 => 5 | 46 => 147 | 119 => 223 | 139 => 226 | 138 => 225 | 146 => 173 | 51 => 172 | n => n, fun | 1 => 0 | 3 => 3 | 4 => 4 | n => n⟩
theorem lays146 : Go.Proofs.Lays.n146 Tryz.prog lays146_ren := {
 mixed := by kernel_rfl
 f138 := Tryz.func79.trans (congrArg some (by kernel_rfl))
 f143 := Tryz.func22.trans (congrArg some (by kernel_rfl))
 f146 := Tryz.func30.trans (congrArg some (by kernel_rfl))
 f195 := Tryz.func120.trans (congrArg some (by kernel_rfl))
 f197 := Tryz.func121.trans (congrArg some (by kernel_rfl))
 f217 := Tryz.func74.trans (congrArg some (by kernel_rfl))
 f218 := Tryz.func122.trans (congrArg some (by kernel_rfl))
 f219 := Tryz.func47.trans (congrArg some (by kernel_rfl))
 f221 := Tryz.func48.trans (congrArg some (by kernel_rfl))
 f224 := Tryz.func76.trans (congrArg some (by kernel_rfl))
 f225 := Tryz.func75.trans (congrArg some (by kernel_rfl))
 f260 := Tryz.func148.trans (congrArg some (by kernel_rfl))
 f266 := Tryz.func118.trans (congrArg some (by kernel_rfl))
 f267 := Tryz.func77.trans (congrArg some (by kernel_rfl))
 f268 := Tryz.func78.trans (congrArg some (by kernel_rfl))
 f314 := Tryz.func119.trans (congrArg some (by kernel_rfl))
 t0 := Tryz.underlying0
 a0 := Tryz.isAgg0
 z0 := Tryz.sizeOf0
 v0 := Tryz.zeroValue0
 t3 := Tryz.underlying3
 a3 := Tryz.isAgg3
 z3 := Tryz.sizeOf3
 v3 := Tryz.zeroValue3
 t4 := Tryz.underlying4
 a4 := Tryz.isAgg4
 z4 := Tryz.sizeOf4
 v4 := Tryz.zeroValue4
 t5 := Tryz.underlying5
 a5 := Tryz.isAgg5
 z5 := Tryz.sizeOf5
 v5 := Tryz.zeroValue5
 t9 := Tryz.underlying9
 a9 := Tryz.isAgg9
 z9 := Tryz.sizeOf9
 v9 := Tryz.zeroValue9
 t21 := Tryz.underlying21
 a21 := Tryz.isAgg21
 z21 := Tryz.sizeOf21
 v21 := Tryz.zeroValue21
 t31 := Tryz.underlying22
 a31 := Tryz.isAgg22
 z31 := Tryz.sizeOf22
 v31 := Tryz.zeroValue22
 t46 := Tryz.underlying147
 a46 := Tryz.isAgg147
 z46 := Tryz.sizeOf147
 v46 := Tryz.zeroValue147
 t51 := Tryz.underlying172
 a51 := Tryz.isAgg172
 z51 := Tryz.sizeOf172
 v51 := Tryz.zeroValue172
 t105 := Tryz.underlying175
 a105 := Tryz.isAgg175
 z105 := Tryz.sizeOf175
 v105 := Tryz.zeroValue175
 t119 := Tryz.underlying223
 a119 := Tryz.isAgg223
 z119 := Tryz.sizeOf223
 t138 := Tryz.underlying225
 a138 := Tryz.isAgg225
 z138 := Tryz.sizeOf225
 v138 := Tryz.zeroValue225
 t139 := Tryz.underlying226
 a139 := Tryz.isAgg226
 z139 := Tryz.sizeOf226
 v139 := Tryz.zeroValue226
 t146 := Tryz.underlying173
 a146 := Tryz.isAgg173
 z146 := Tryz.sizeOf173
 v146 := Tryz.zeroValue173
 g1 := by kernel_rfl
 g3 := by kernel_rfl
 g4 := by kernel_rfl }
open Go.RowKit Go.Lib in
open Go.RowKit Go.Lib in
theorem strings_Split (s sep : ByteArray) (m : Int) (w : World) (hs : s.size < 4294967281) (hm : w.cell? ⟨0, 0, none⟩ = some (.int .i64 m)) (h1 : 1 <= sep.size) :
 Calls Tryz.prog 30 #[.string s, .string sep] w fun e w' =>
  e = .returned (.slice (some ⟨w.heap.size, 0, none⟩) (Lib.countB s sep + 1) (Lib.countB s sep + 1)) /\ w' = w.alloc (.cells ((Lib.splitB sep 0 (Lib.countB s sep) s).map Value.string).toArray 9) := Any.strings_Split lays146 (by kernel_rfl) s sep m w hs hm h1
def laysSlH10_ren : Go.Shelf.Ren := ⟨fun | 10 => 29 | 6 => 56 | n => n, fun | 22 => 22 | 23 => 9 | 25 => 88 | 3 => 3 | 4 => 4 | 0 => 0 | n => n, fun | n => n⟩
theorem laysSlH10 : Go.Proofs.SlLaysH.n10 Tryz.prog laysSlH10_ren := {
 mixed := by kernel_rfl
 f6 := ⟨Tryz.f56.name, by decide, Tryz.func56.trans (congrArg some (by kernel_rfl))⟩
 f10 := ⟨Tryz.f29.name, by decide, Tryz.func29.trans (congrArg some (by kernel_rfl))⟩
 t0 := Tryz.underlying0
 a0 := Tryz.isAgg0
 z0 := Tryz.sizeOf0
 v0 := Tryz.zeroValue0
 t3 := Tryz.underlying3
 a3 := Tryz.isAgg3
 z3 := Tryz.sizeOf3
 v3 := Tryz.zeroValue3
 t4 := Tryz.underlying4
 a4 := Tryz.isAgg4
 z4 := Tryz.sizeOf4
 v4 := Tryz.zeroValue4
 t22 := Tryz.underlying22
 a22 := Tryz.isAgg22
 z22 := Tryz.sizeOf22
 v22 := Tryz.zeroValue22
 a23 := Tryz.isAgg9
 z23 := Tryz.sizeOf9
 t25 := Tryz.underlying88
 a25 := Tryz.isAgg88
 z25 := Tryz.sizeOf88
 v25 := Tryz.zeroValue88 }
open Go.RowKit Go.Lib Go.Sort in
open Go.RowKit Go.Lib Go.Sort in
theorem slices_DeleteFunc {α : Type} [Inhabited α] (enc : α -> Value) (hO : OneCell enc) (p : α -> Bool) (g : Nat) (lb : Array Value) (eg : ∀ args w, (callFunc g args).run Tryz.prog w = .ok (.enter g args) w) (zr : α) (v23 : ∀ w, (zeroValue 9).run Tryz.prog w = .ok (enc zr) w) (blk off cap : Nat) (d : Array α) (w : World) (hp : PredAt Tryz.prog g lb enc p w) (hpo : PredOver Tryz.prog g lb enc p blk off d.size w) (hH : Go.Sort.Holds enc w blk off d) (hsz : d.size <= 9223372036854775807) (hcap : d.size <= cap) :
 Calls Tryz.prog 29 #[.slice (some ⟨blk, off, none⟩) d.size cap, .func (.func g) #[] lb] w fun e w' => e = .returned (.slice (some ⟨blk, off, none⟩) (d.toList.filter fun x => !p x).length cap) /\ ∃ q, w' = putRow enc (Sort.ahead w q) blk off ((d.toList.filter fun x => !p x) ++ List.replicate (d.size - (d.toList.filter fun x => !p x).length) zr).toArray := AnyE.slices_DeleteFunc laysSlH10 enc hO p g lb eg zr v23 blk off cap d w hp hpo hH hsz hcap
end Go.Proofs.YtalfbhhldfffkaaGreatDoor
namespace Go.Proofs.YtalfbhhldfffkaaGreatDoor
open Go.RowKit
structure LaidD (w : World) : Prop where
 laid : Laid w
 syn : ∃ tp p, w.var? Tryz.prog "strconv.ErrSyntax" = some #[.iface tp p]
 rng : ∃ tp p, w.var? Tryz.prog "strconv.ErrRange" = some #[.iface tp p]
theorem var_ext {w w' : World} {s : String} {cs : Array Value} (h : w.var? Tryz.prog s = some cs) (hx : Ext w w') : w'.var? Tryz.prog s = some cs := by
 unfold World.var? at h ⊢;cases hg : Tryz.prog.globalNamed s with
 | none => rw [hg] at h; simp at h
 | some g =>
   rw [hg] at h;simp only [Option.bind_some] at h ⊢
   have hlt : g < w.heap.size := by
    rcases Nat.lt_or_ge g w.heap.size with h2 | h2
    ·exact h2
    ·rw [Array.getElem?_eq_none h2] at h; simp at h
   rw [hx.block g hlt id];exact h
theorem LaidD.ext {w w' : World} (h : LaidD w) (hx : Ext w w') : LaidD w' := by
 obtain ⟨h1, ⟨a, b, h2⟩, ⟨c, d, h3⟩⟩ := h;exact ⟨h1.ext hx, ⟨a, b, var_ext h2 hx⟩, ⟨c, d, var_ext h3 hx⟩⟩
theorem joinL_eq (l : List (List UInt8)) : joinL l = Lib.join l [32] := by
 induction l with
 | nil => rfl
 | cons x l ih =>
   cases l with
   | nil => rw [Lib.join_cons]; simp [joinL, Lib.joinTail]
   | cons y l =>
     rw [Lib.join_cons] at ih ⊢;show x ++ 32 :: joinL (y :: l) = _;rw [ih];simp [Lib.joinTail]
theorem joinSp_say (xs : List ByteArray) : (joinSp xs ++ (⟨#[10]⟩ : ByteArray)).toList = say (xs.map (·.toList)) := by
 rw [toList_cat];unfold say;rw [joinL_eq, <- joinSp_eq];congr 1
 ·rw [ByteArray.toList_eq];have e : xs.map (·.toList) = xs.map (·.data.toList) := List.map_congr_left fun x _ => ByteArray.toList_eq x;rw [e]
 ·rw [ByteArray.toList_eq]
theorem flat_texts : ∀ xs : List ByteArray, flat xs = xs.map Value.string
 | [] => rfl
 | y :: ys => by rw [flat_cons, flat_texts ys]; rfl
theorem own_texts {w : World} {g : Nat} (xs : List ByteArray) {cs : Array Value} (h : w.heap[g]? = some (.cells cs 9 (0, 0))) (hcs : cs = (xs.map Value.string).toArray) (hl : xs.length <= 100) : Owns w 9 (.slice (some ⟨g, 0, none⟩) xs.length xs.length) xs := by
 subst hcs;refine own_take_drop h rfl (Nat.le_refl _) (by unfold maxLen; omega) ?_ ?_
 ·simp [Lies.size]
 ·rw [flat_texts];exact List.take_of_length_le (by simp [Lies.size])
theorem desk_num (w : World) (n : Int) (hn : I64 n) (hL : Laid w) : Calls Tryz.prog 27 #[.int .i64 n] w (NumPost w n) := by
 have HL := lh hL;have HN := lh hn;clear hL hn;go_enter Tryz.func27, Tryz.ntmps27
 go_wp2_with fail
 refine (strconv_Itoa n HN.out.1 HN.out.2 w HL.out.tab).mono ?_;rintro e w1 ⟨rfl, k, os, rfl⟩;have HX := lh (ext_grow w k os);go_wp2
 go_ret
 exact ⟨rfl, HX.out⟩
abbrev TR {X : Type} (S : Rep X) (gd gw : Nat) : Rep (X × (List UInt8 × House)) := S.and (repTell gd gw)
def Tells {X : Type} (S : Rep X) (x : X) (W : World) (gd gw : Nat) (z : List UInt8 × House) (r : Value) (e : Ending) (w' : World) : Prop := e = .returned r /\ Has (TR S gd gw) W w' (x, z)
section
variable {X : Type} {S : Rep X} {x : X} {W w : World} {gd gw : Nat} {t : List UInt8} {h : House}
theorem tell_open (H : Has (TR S gd gw) W w (x, (t, h))) : ∃ p v, DeskAt w gd gw p v t /\
 (∃ F', (repWorld gw).on w F' h /\ ∀ h' w', Moved (repWorld gw) w F' h' w' -> Has (TR S gd gw) W w' (x, (t, h'))) /\
 (∀ p' v' t' w', DeskAt w' gd gw p' v' t' -> Touch (fun k => k = gd \/ v.ownBlock = some k) w w' -> (∀ k, v'.ownBlock = some k -> v.ownBlock = some k \/ w.heap.size <= k) -> Has (TR S gd gw) W w' (x, (t', h))) := by
 obtain ⟨F, hF, hm⟩ := H.snd;obtain ⟨p, v, h1, ⟨F', h2, h3⟩, h4⟩ := tell_on hF;exact ⟨p, v, h1, ⟨F', h2, fun h' w' m => hm _ _ (h3 h' w' m)⟩, fun p' v' t' w' a b c => hm _ _ (h4 p' v' t' w' a b c)⟩
theorem desk_say (H : Has (TR S gd gw) W w (x, (t, h))) (A : Option Addr) (n c : Nat) (xs : List ByteArray) (ho : Owns w 9 (.slice A n c) xs) (hn : xs.length <= 100) (hsz : (joinSp xs).size <= 100000000) (ht : t.length <= 1000000000) :
 Calls Tryz.prog 26 #[.pointer (some ⟨gd, 0, none⟩), .slice A n c] w (Tells S x W gd gw (t ++ say (xs.map (·.toList)), h) (.tuple #[])) := by
 have HH := lh H;have HO := lh ho;clear H ho;go_enter Tryz.func26, Tryz.ntmps26
 refine wp_region_held_drew (S := fun _ => True) (by kernel_rfl) trivial (fun hHeld => ?_);refine tK 0 ?_;try simp only [pS]
 refine tK 1 ?_;try simp only [pS]
 refine tK 2 ?_;try simp only [pS]
 refine tK 3 ?_;try simp only [pS]
 refine tC 4 fun K hK => ?_;go_simp;go_at_call 53
 have hx0 : Ext w w.drew := Touch.drew (Touch.refl _ w);refine (join_names w.drew A n c xs (HO.out.ext hx0) (by omega) (by rw [join_len]; omega)).mono ?_;rintro e w1 ⟨rfl, hx1⟩;have HX := lh (hx0.trans hx1);clear hx0 hx1;refine hK.out _ _ trivial (fun hHeld => ?_);clear hK K;try simp only [pS]
 refine tV 5 (.string (joinSp xs ++ (⟨#[10]⟩ : ByteArray))) ?_ ?_
 ·intro w' _;go_simp;omega
 try simp only [pS]
 refine tC 6 fun K hK => ?_;go_simp;go_at_call 52
 obtain ⟨p, v, hA, _, hm⟩ := tell_open (HH.out.step HX.out);refine (desk_write w1 gd gw p v t (joinSp xs ++ (⟨#[10]⟩ : ByteArray)) hA (by rw [ByteArray.size_append]; have e : (⟨#[10]⟩ : ByteArray).size = 1 := rfl; omega)).mono ?_;rintro e w2 ⟨rfl, v', hA', ht', hf'⟩;have h2 := hm _ _ _ _ hA' ht' hf';rw [joinSp_say] at h2;have H2 := lh h2;clear h2 hA hm hA' ht' hf';refine hK.out _ _ trivial (fun hHeld => ?_);clear hK K;try simp only [pS]
 refine tD ?_;go_wp2
 go_end0
 exact ⟨rfl, H2.out⟩
end
theorem touch_freezeA (w : World) (a : Addr) (n : Nat) : Touch (fun k => k = a.block) w (w.freeze a n) := by
 unfold World.freeze;split
 ·exact Touch.refl _ _
 ·exact ⟨rfl, rfl, rfl, by simp, fun k _ hk => by
   simp only [Array.getElem?_modify];rw [if_neg (fun e => hk e.symm)]⟩
theorem ext_bytes (w : World) (e : TypeId) (s : ByteArray) : Ext w (Lib.bytesWorld w e s) := by
 unfold Lib.bytesWorld;exact ((Touch.drew (Touch.refl _ w)).alloc _).then (touch_freezeA _ _ _) fun k hk => .inr (Nat.le_of_eq hk.symm)
theorem ext_below {w w' : World} (h : Below w.heap.size w w') : Ext w w' := ⟨h.os, h.tape, h.output, h.size, fun k hk _ => h.block k hk⟩
def AtoiPost (w : World) (s : ByteArray) (e : Ending) (w' : World) : Prop :=
 (∃ n, Lib.atoiAll s.toList = .ok n /\ e = .returned (.tuple #[.int .i64 n, .nilIface]) /\ Ext w w') \/
 ((∀ n, Lib.atoiAll s.toList ≠ .ok n) /\ ∃ m N, e = .returned (.tuple #[.int .i64 m, .iface 162 (.pointer (some ⟨N, 0, none⟩))]) /\ Ext w w')
theorem atoi_any (w : World) (s : ByteArray) (hs : s.size <= 1000000) (hL : LaidD w) : Calls Tryz.prog 34 #[.string s] w (AtoiPost w s) := by
 have e : s.toList = s.data.toList := ByteArray.toList_eq s;obtain ⟨_, ⟨tp, p, hsyn⟩, ⟨tp', p', hrng⟩⟩ := hL;unfold AtoiPost;rw [e];cases ha : Lib.atoiAll s.data.toList
 ·rename_i n;refine (strconv_Atoi_ok s (by omega) n ha w).mono ?_;rintro e w' ⟨rfl, rfl | ⟨t, rfl⟩⟩
  ·exact .inl ⟨n, rfl, rfl, Touch.refl _ _⟩
  ·exact .inl ⟨n, rfl, rfl, ext_bytes _ _ _⟩
 ·refine (Any.strconv_Atoi_syntax_var laysC172 s (by omega) ha tp p w hsyn).mono ?_;rintro e w' ⟨N, rfl, _, _, hb⟩;exact .inr ⟨fun n h => by simp at h, _, N, rfl, ext_below hb⟩
 ·refine (strconv_Atoi_range_var s (by omega) ha tp' p' w hrng).mono ?_;rintro e w' ⟨N, rfl, _, _, hb⟩;exact .inr ⟨fun n h => by simp at h, _, N, rfl, ext_below hb⟩
theorem numOf_ok {s : List UInt8} {n : Int} (h : Lib.atoiAll s = .ok n) : numOf s = if Lib.itoa n = s then some n else none := by
 unfold numOf;rw [h]
theorem numOf_no {s : List UInt8} (h : ∀ n, Lib.atoiAll s ≠ .ok n) : numOf s = none := by
 unfold numOf;split
 ·rename_i n hn; exact (h n hn).elim
 ·rfl
theorem numsOf_snoc {l : List (List UInt8)} {k : Nat} {s : List UInt8} {m : List Int} (hs : l[k]? = some s) (hm : numsOf (l.take k) = some m) :
 (∀ n, numOf s = some n -> numsOf (l.take (k + 1)) = some (m ++ [n])) /\ (numOf s = none -> numsOf l = none) := by
 have h1 : l.take (k + 1) = l.take k ++ [s] := by rw [List.take_add_one, hs]; rfl
 have h2 : numsOf (l.take (k + 1)) = match numOf s with | some n => some (m ++ [n]) | none => none := by
  rw [h1, numsOf_append, hm];simp only [numsOf];cases numOf s <;> rfl
 refine ⟨fun n hn => by rw [h2, hn], fun hn => ?_⟩;have h3 : l = l.take (k + 1) ++ l.drop (k + 1) := (List.take_append_drop _ _).symm;rw [h3, numsOf_append, h2, hn]
def NumsPost (w : World) (l : List (List UInt8)) (e : Ending) (w' : World) : Prop :=
 (numsOf l = none /\ e = .returned (.tuple #[.slice none 0 0, .bool false]) /\ Ext w w') \/
 ∃ m A c, numsOf l = some m /\ e = .returned (.tuple #[.slice A m.length c, .bool true]) /\ Owns w' 3 (.slice A m.length c) m /\ Ext w w' /\ ∀ k, (Value.slice A m.length c).ownBlock = some k -> w.heap.size <= k
def NumsRel (w : World) (l : List (List UInt8)) (out i : Value) (wr : World) : Prop :=
 ∃ (k : Nat) (m : List Int) (A1 : Option Addr) (c1 : Nat), i = .int .i64 k /\ k <= l.length /\ out = .slice A1 k c1 /\ numsOf (l.take k) = some m /\ m.length = k /\ Owns wr 3 (.slice A1 k c1) m /\ Ext w wr /\ ∀ q, (Value.slice A1 k c1).ownBlock = some q -> w.heap.size <= q
theorem desk_numbers (w : World) (A : Option Addr) (n c : Nat) (l : List ByteArray) (hr : Reads w w.heap.size A l) (hn : n = l.length) (hl : l.length <= 100000) (hs : ∀ s ∈ l, s.size <= 100000) (hL : LaidD w) :
 Calls Tryz.prog 24 #[.slice A n c] w (NumsPost w (l.map (·.toList))) := by
 subst hn;have HR := lh hr;have HS := lh hs;have HL := lh hL;clear hr hs hL;go_enter Tryz.func24, Tryz.ntmps24
 go_wp2
 go_loopw [4, 11] (fun out i wr => NumsRel w (l.map (·.toList)) out i wr) (fun _ i _ => l.length - (intOf i).toNat)
 case atStart => exact ⟨0, [], none, 0, rfl, Nat.zero_le _, rfl, rfl, rfl, Owns.nil _ _, Touch.refl _ w, fun k hk => by simp [Value.ownBlock] at hk⟩
 case round =>
  obtain ⟨k, m, A1, c1, rfl, hk, rfl, hm, hmk, ho, hx, hf⟩ := hrel;rw [List.length_map] at hk;have HO := lh ho;have HX := lh hx;have HB := lh hf;have HM := lh hm;clear ho hx hf hm;by_cases hlt : k < l.length
  ·obtain ⟨s, hsx⟩ : ∃ s, l[k]? = some s := ⟨l[k], by simp [hlt]⟩
   obtain ⟨ad, rfl, hct'⟩ := cell_text HR.out hsx;have hct := hct' wr HX.out;have HSN := lh (numsOf_snoc (l := l.map (·.toList)) (k := k) (s := s.toList) (by rw [List.getElem?_map, hsx]; rfl) HM.out);have hsz' : s.size <= 1000000 := by have := HS.out s (List.mem_of_getElem? hsx); omega
   clear hsx hct';go_wp2_with fail
   refine (atoi_any wr s hsz' (HL.out.ext HX.out)).mono ?_;rintro e w1 (⟨n, hn, rfl, hx1⟩ | ⟨hno, mm, N, rfl, hx1⟩)
   ·have HX1 := lh (HX.out.trans hx1);have HO1 := lh (HO.out.ext hx1);have hb := Lib.atoiAll_bounds hn;have hnf := numOf_ok hn;clear hx1 hn HX HO hct;go_wp2_with fail
    refine (desk_num w1 n ⟨hb.1, hb.2⟩ (HL.out.ext HX1.out).laid).mono ?_;rintro e w2 ⟨rfl, hx2⟩;have HX2 := lh (HX1.out.trans hx2);have HO2 := lh (HO1.out.ext hx2);clear hx2 HX1 HO1;by_cases hq : Lib.itoa n = s.toList
    ·rw [if_pos hq] at hnf;have HN := lh (HSN.out.1 n hnf);have hne : ((mkStr (Lib.itoa n)).toList == s.toList) = true := by rw [mkStr_toList, hq]; simp
     clear hnf hq
     go_wp2_with (at_builtin
                  go_loud (refine wpList_append_own' (by rfl) (.tmp 28) (.tmp 30) 76 (by rfl) elemInt Tryz.underlying76 (v := _) (l := m) (by rfl) (HO2.out.ext ((Touch.refl _ w2).alloc _)) [n] (by rfl) (k + 1) (by simp; omega) (by rfl) (reads_block (x := n) (b := w2.heap.size) (by simp only [heap_alloc_at]; rfl) (w2.heap.size + 1) (by omega)) (by simp; omega) ?_)
                  intro A2 c2 w3 hown3 hgrow3 hat3;have HO3 := lh hown3;have HG3 := lh hgrow3;have HA3 := lh hat3;clear hown3 hgrow3 hat3)
     go_roundw
     case rel =>
      refine ⟨k + 1, m ++ [n], A2, c2, by go_num, by rw [List.length_map]; omega, rfl, HN.out, by simp; omega, HO3.out, ?_, fun q hq => ?_⟩
      ·exact (HX2.out.alloc _).grown HG3.out fun q hq => .inr (HB.out q hq)
      ·rcases HA3.out with h | h
       ·rw [h] at hq; exact HB.out q hq
       ·rw [h] at hq; injection hq with hq; have := HX2.out.size; simp at hq; omega
     case measure => simp [intOf]; omega
    ·rw [if_neg hq] at hnf;have HN := lh (HSN.out.2 hnf);have hne : ((mkStr (Lib.itoa n)).toList == s.toList) = false := by rw [mkStr_toList]; simpa using hq
     clear hnf hq;go_wp2
     go_ret2
     exact .inl ⟨HN.out, rfl, HX2.out⟩
   ·have HX1 := lh (HX.out.trans hx1);have HN := lh (HSN.out.2 (numOf_no hno));clear hx1 hno HX hct;go_wp2
    go_ret2
    exact .inl ⟨HN.out, rfl, HX1.out⟩
  ·obtain rfl : k = l.length := by omega
   go_wp2
   go_ret2
   have h1 : numsOf (l.map (·.toList)) = some m := by
    have h := HM.out;rwa [List.take_of_length_le (Nat.le_of_eq (List.length_map ..))] at h
   refine .inr ⟨m, A1, c1, h1, ?_, ?_, HX.out, ?_⟩
   ·rw [hmk]; rfl
   ·rw [hmk]; exact HO.out
   ·rw [hmk]; exact HB.out
abbrev sOk : ByteArray := ⟨#[111, 107]⟩
abbrev sNo : ByteArray := ⟨#[110, 111]⟩
abbrev sEnd : ByteArray := ⟨#[101, 110, 100]⟩
abbrev sWhat : ByteArray := ⟨#[119, 104, 97, 116]⟩
theorem lit_toList (l : List UInt8) : (⟨l.toArray⟩ : ByteArray).toList = l := mkStr_toList l
section
variable {X : Type} {S : Rep X} {x : X} {W w : World} {gd gw : Nat} {t : List UInt8} {h : House}
theorem tell_ds (H : Has (TR S gd gw) W w (x, (t, h))) : w.cell? ⟨gd, 2, none⟩ = some (.pointer (some ⟨gw, 0, none⟩)) := by
 obtain ⟨p, v, h1, _⟩ := tell_open H;exact (cell_of h1.cell 2).trans rfl
theorem tell_world (H : Has (TR S gd gw) W w (x, (t, h))) : ∃ F', (repWorld gw).on w F' h /\ ∀ h' w', Moved (repWorld gw) w F' h' w' -> Has (TR S gd gw) W w' (x, (t, h')) := by
 obtain ⟨p, v, _, h1, _⟩ := tell_open H;exact h1
theorem say_lit (H : Has (TR S gd gw) W w (x, (t, h))) (xs : List ByteArray) (hn : xs.length <= 100) (hsz : (joinSp xs).size <= 100000000) (ht : t.length <= 1000000000) {n : Nat} (hl : xs.length = n) {cs : Array Value} (hcs : cs = (xs.map Value.string).toArray) {T : List UInt8} (hT : say (xs.map (·.toList)) = T) :
 Calls Tryz.prog 26 #[.pointer (some ⟨gd, 0, none⟩), .slice (some ⟨w.heap.size, 0, none⟩) n n] (w.alloc (.cells cs 9)) (Tells S x W gd gw (t ++ T, h) (.tuple #[])) := by
 subst hl;subst hT;exact desk_say (H.step ((Touch.refl _ w).alloc _)) _ _ _ xs (own_texts xs (heap_alloc_new _ _) hcs hn) hn hsz ht
end
theorem say_code {c : Int} {xs : List ByteArray} (h : xs = if c ≠ 0 then [sNo, mkStr (Lib.itoa c)] else [sOk]) : say (xs.map (·.toList)) = dCode c := by
 subst h;unfold dCode;split
 ·simp [mkStr_toList, wNo]
 ·simp [wOk]
theorem two_len (a : ByteArray) (n : Int) (hn : Num64 n) (ha : a.size <= 10) : (joinSp [a, mkStr (Lib.itoa n)]).size <= 100000000 := by
 rw [join2, ByteArray.size_append, ByteArray.size_append, mkStr_size];have := num_le hn;have e : (⟨#[32]⟩ : ByteArray).size = 1 := rfl;omega
section
variable {X : Type} {S : Rep X} {x : X} {W w : World} {gd gw : Nat} {t : List UInt8} {h : House}
theorem desk_step (H : Has (TR S gd gw) W w (x, (t, h))) (hL : LaidD W) (hok : DeskOk h) (z : Step) (hz : StrWStep z) (ht : t.length <= 100000000) :
 Calls Tryz.prog 28 #[.pointer (some ⟨gd, 0, none⟩), .agg z.cells] w (Tells S x W gd gw (t ++ (dStep h z).1, (dStep h z).2) (.tuple #[])) := by
 have HL := lh hL;have HF := lh (show Fits h by obtain ⟨⟨fr, h1⟩, _⟩ := hok; exact h1.fits);have HZ := lh hz;have H1 := lh (H.box z.cells 85).exch';clear H hL hok hz;go_enter Tryz.func28, Tryz.ntmps28
 go_upto_region 1 with fail
 generalize w.alloc (.cells z.cells 85) = w1 at H1 ⊢;generalize w.heap.size = b at H1 ⊢;go_wp2_with fail
 refine wp_region_held_drew (S := fun w' => w'.cell? ⟨gd, 2, none⟩ = some (.pointer (some ⟨gw, 0, none⟩)) /\ w'.heap[b]? = some (.cells z.cells 85 (0, 0))) (by kernel_rfl) ⟨tell_ds (H1.out.step (Touch.drew (Touch.refl _ w1))), (H1.out.step (Touch.drew (Touch.refl _ w1))).left.blk⟩ (fun hHeld => ?_);refine tK 0 ?_;try simp only [pS]
 refine tK 1 ?_;try simp only [pS]
 refine tK 2 ?_;try simp only [pS]
 refine tK 3 ?_ (hY := fun w' hw' => by
  have hg := hw'.1;go_simp;try with_reducible rfl)
 try simp only [pS]
 refine tK 4 ?_ (hY := fun w' hw' => by
  have hb := hw'.2;go_simp;try with_reducible rfl)
 try simp only [pS]
 refine tC 5 fun K hK => ?_;go_simp;go_at_call 55
 have hx1 : Ext w1 w1.drew := Touch.drew (Touch.refl _ w1);obtain ⟨F2, hF2, hm2⟩ := tell_world (H1.out.step hx1);refine (world_step w1.drew gw F2 h z hF2 HF.out HZ.out).mono ?_;rintro e w2 ⟨rfl, hq2⟩;have h2 := hm2 _ _ hq2;have H2 := lh h2.drop;refine hK.out _ _ ⟨tell_ds h2, h2.left.blk⟩ (fun hHeld => ?_);clear hF2 hm2 hq2 h2 hx1;clear hK K;try simp only [pS]
 refine tK 6 ?_;try simp only [pS]
 refine tD ?_;clear hHeld H1;have hcode := hStep_code h z;have HD := lh (show dStep h z = (dCode (hStep h z).1, (hStep h z).2) from rfl);generalize (hStep h z).2 = h' at *;generalize (hStep h z).1 = c at *;by_cases hc : c = 0
 ·subst hc;go_wp2_with fail
  refine (say_lit H2.out [sOk] (by decide) (by decide) (by omega) rfl rfl (say_code (c := 0) rfl)).mono ?_;rintro e w3 ⟨rfl, H3⟩;go_wp2
  go_end0
  exact ⟨rfl, by rw [HD.out]; exact H3⟩
 ·have hn64 : Num64 c := ⟨by omega, by omega⟩
  go_wp2_with fail
  refine (desk_num w2 c hn64 (HL.out.ext H2.out.ext).laid).mono ?_;rintro e w3 ⟨rfl, hx3⟩;have H3 := lh (H2.out.step hx3);clear hx3;go_wp2_with fail
  refine (say_lit H3.out [sNo, mkStr (Lib.itoa c)] (by simp) (two_len _ _ hn64 (by decide)) (by omega) rfl rfl (say_code (c := c) (by rw [if_pos hc]))).mono ?_;rintro e w4 ⟨rfl, H4⟩;go_wp2
  go_end0
  exact ⟨rfl, by rw [HD.out]; exact H4⟩
theorem say_size {xs : List ByteArray} {T : List UInt8} (h : say (xs.map (·.toList)) = T) : (joinSp xs).size <= T.length := by
 have h1 := congrArg List.length (joinSp_say xs);rw [h, length_toList', ByteArray.size_append] at h1;omega
theorem say_lit' (H : Has (TR S gd gw) W w (x, (t, h))) (xs : List ByteArray) (hn : xs.length <= 100) (ht : t.length <= 1000000000) {n : Nat} (hl : xs.length = n) {cs : Array Value} (hcs : cs = (xs.map Value.string).toArray) {T : List UInt8} (hT : say (xs.map (·.toList)) = T) (hTl : T.length <= 1000) :
 Calls Tryz.prog 26 #[.pointer (some ⟨gd, 0, none⟩), .slice (some ⟨w.heap.size, 0, none⟩) n n] (w.alloc (.cells cs 9)) (Tells S x W gd gw (t ++ T, h) (.tuple #[])) :=
 say_lit H xs hn (by have := say_size hT; omega) ht hl hcs hT
theorem ct_size {c : Call} (h : callCode c = 0) : (callText c).1.size <= 30 := by
 have := cText_len h;unfold cText at this;rwa [length_toList'] at this
theorem rec_say (client no : Int) (c : Call) (a : Answer) (pre : List ByteArray) : say ((pre ++ [mkStr (Lib.itoa client), mkStr (Lib.itoa no), (callText c).1 ++ (⟨#[58]⟩ : ByteArray), mkStr (ansLine a)]).map (·.toList)) = say (pre.map (·.toList) ++ recWords client no c a) := by
 simp [mkStr_toList, toList_cat, recWords, cText]
theorem desk_record (H : Has (TR S gd gw) W w (x, (t, h))) (hL : LaidD W) (r : Record) (hr : TellOk r.client r.no r.call) (ha : ShortAns r.answer) (hs : StrCall r.call) (ht : t.length <= 900000000) :
 Calls Tryz.prog 98 #[.pointer (some ⟨gd, 0, none⟩), .agg r.cells] w (Tells S x W gd gw (t ++ recTxt r, h) (.tuple #[])) := by
 have HL := lh hL;have HR := lh hr;have HA := lh ha;have HS := lh hs;have H1 := lh (H.box r.cells 112).exch';have hcs := ct_size hr.call;have hln := lh (recTxt_len hr ha);clear H hL hr ha hs;go_enter Tryz.func98, Tryz.ntmps98
 go_upto_region 1 with fail
 generalize w.alloc (.cells r.cells 112) = w1 at H1 ⊢;generalize w.heap.size = b at H1 ⊢;have hb1 := H1.out.left.blk;go_wp2_with fail
 refine (line_call w1 r.call HS.out).mono ?_;rintro e w2 ⟨rfl, hx2⟩;have H2 := lh (H1.out.step hx2);clear hx2 H1 hb1;go_wp2_with fail
 refine wp_region_held_drew (S := fun w' => w'.heap[b]? = some (.cells r.cells 112 (0, 0))) (by kernel_rfl) (H2.out.step (Touch.drew (Touch.refl _ w2))).left.blk (fun hHeld => ?_);have H3 := lh (H2.out.step (Touch.drew (Touch.refl _ w2)));clear H2;refine tK 0 ?_;try simp only [pS]
 refine tK 1 ?_;try simp only [pS]
 refine tK 4 ?_;try simp only [pS]
 refine tK 7 ?_;try simp only [pS]
 refine tK 9 ?_;try simp only [pS]
 refine tK 2 ?_ (hY := fun w' hw' => by
  have hc := (cell_of hw' 0).trans (Record.get0 r);go_simp;try with_reducible rfl)
 try simp only [pS]
 refine tK 5 ?_ (hY := fun w' hw' => by
  have hc := (cell_of hw' 1).trans (Record.get1 r);go_simp;try with_reducible rfl)
 try simp only [pS]
 refine tV 8 (.string ((callText r.call).1 ++ (⟨#[58]⟩ : ByteArray))) ?_ ?_
 ·intro w' _;go_simp;omega
 try simp only [pS]
 refine tK 10 ?_;try simp only [pS]
 refine tC 3 fun K hK => ?_;go_simp;go_at_call 27
 refine (desk_num _ r.client HR.out.client (HL.out.ext H3.out.ext).laid).mono ?_;rintro e w4 ⟨rfl, hx4⟩;have H4 := lh (H3.out.step hx4);refine hK.out _ _ H4.out.left.blk (fun hHeld => ?_);clear hx4 H3;clear hK K;try simp only [pS]
 refine tC 6 fun K hK => ?_;go_simp;go_at_call 27
 refine (desk_num _ r.no HR.out.no (HL.out.ext H4.out.ext).laid).mono ?_;rintro e w5 ⟨rfl, hx5⟩;have H5 := lh (H4.out.step hx5);refine hK.out _ _ H5.out.left.blk (fun hHeld => ?_);clear hx5 H4;clear hK K;try simp only [pS]
 refine tC 11 fun K hK => ?_;go_simp;go_at_call 96
 refine (line_answer _ r.answer ⟨by have := HA.out.lo; omega, by have := HA.out.hi; omega⟩ (by have := HA.out.text; omega) (HL.out.ext H5.out.ext).laid).mono ?_;rintro e w6 ⟨rfl, hx6⟩;have H6 := lh (H5.out.step hx6);refine hK.out _ _ H6.out.left.blk (fun hHeld => ?_);clear hx6 H5;clear hK K;try simp only [pS]
 refine tC 12 fun K hK => ?_;go_simp;refine hK.out _ _ (H6.out.step ((Touch.refl _ w6).alloc _)).left.blk (fun hHeld => ?_);clear hK K;try simp only [pS]
 refine tC 13 fun K hK => ?_;go_simp;go_at_call 26
 refine (say_lit' H6.out [mkStr (Lib.itoa r.client), mkStr (Lib.itoa r.no), (callText r.call).1 ++ (⟨#[58]⟩ : ByteArray), mkStr (ansLine r.answer)] (by simp) (by omega) rfl rfl (rec_say r.client r.no r.call r.answer []) (by have := hln.out; unfold recTxt at this; show (say (recWords _ _ _ _)).length <= _; omega)).mono ?_;rintro e w7 ⟨rfl, H7⟩;have HX := lh H7.drop;refine hK.out _ _ H7.left.blk (fun hHeld => ?_);clear H7;clear hK K;try simp only [pS]
 refine tD ?_;go_wp2
 go_end0
 exact ⟨rfl, HX.out⟩
end
theorem cat_take {α : Type} (f : α -> List UInt8) {l : List α} {k : Nat} {y : α} (h : l[k]? = some y) : (l.take (k + 1)).flatMap f = (l.take k).flatMap f ++ f y := by
 rw [List.take_add_one, h];simp
theorem cat_take_len {α : Type} (f : α -> List UInt8) {l : List α} {m : Nat} (hf : ∀ y ∈ l, (f y).length <= 250) (hm : l.length <= m) (k : Nat) : ((l.take k).flatMap f).length <= 250 * m := by
 have h1 := flat_len f (l.take k) fun y hy => hf y (List.mem_of_mem_take hy);have h2 : (l.take k).length <= l.length := by rw [List.length_take]; omega
 have h3 : 250 * (l.take k).length <= 250 * m := Nat.mul_le_mul_left _ (by omega);omega
abbrev OPk : Rep (Value × List Packet) := repOwn 103
abbrev ORk : Rep (Value × List Record) := repOwn 112
theorem end_say : say ([sEnd].map (·.toList)) = say [wEnd] := by simp [wEnd]
theorem call_say (client no : Int) (c : Call) : say ([(⟨#[99, 97, 108, 108]⟩ : ByteArray), mkStr (Lib.itoa client), mkStr (Lib.itoa no), (callText c).1].map (·.toList)) = say [wCall, Lib.itoa client, Lib.itoa no, cText c] := by
 simp [mkStr_toList, wCall, cText]
theorem reply_say (client no : Int) (c : Call) (a : Answer) : say ([(⟨#[114, 101, 112, 108, 121]⟩ : ByteArray), mkStr (Lib.itoa client), mkStr (Lib.itoa no), (callText c).1 ++ (⟨#[58]⟩ : ByteArray), mkStr (ansLine a)].map (·.toList)) = say (wReply :: recWords client no c a) := by
 have h := rec_say client no c a [⟨#[114, 101, 112, 108, 121]⟩];simpa [lit_toList, wReply] using h
section
variable {X : Type} {S : Rep X} {x : X} {W w : World} {gd gw : Nat} {t : List UInt8} {h : House}
def PkRel (S : Rep X) (x : X) (W : World) (gd gw : Nat) (t : List UInt8) (h : House) (v : Value) (i : Value) (wr : World) : Prop :=
 ∃ k : Nat, i = .int .i64 k /\ k <= h.bag.length /\ Has (TR (S.and OPk) gd gw) W wr ((x, (v, h.bag)), (t ++ (h.bag.take k).flatMap packTxt, h))
theorem desk_packets (H : Has (TR S gd gw) W w (x, (t, h))) (hL : LaidD W) (hok : DeskOk h) (ht : t.length <= 100000000) :
 Calls Tryz.prog 58 #[.pointer (some ⟨gd, 0, none⟩)] w (Tells S x W gd gw (t ++ (h.bag.flatMap packTxt ++ say [wEnd]), h) (.tuple #[])) := by
 have HL := lh hL;have HOK := lh hok;have H0 := lh H;have hds := tell_ds H
 have HTL := lh (show ∀ p ∈ h.bag, TellOk p.client p.no p.call /\ ShortAns p.answer /\ StrCall p.call from fun p hp => by
  obtain ⟨⟨fr, h1⟩, h2⟩ := hok;exact ⟨tell_packet h1 hp, h2.bag p hp, h1.fits.calls p hp⟩)
 have HPL := lh (show ∀ p ∈ h.bag, (packTxt p).length <= 250 from fun p hp => packTxt_len (HTL.out p hp).1 (HTL.out p hp).2.1);have hbl : h.bag.length <= 40 := by obtain ⟨⟨fr, h1⟩, _⟩ := hok; exact h1.bag
 have HFL := lh (fun k => cat_take_len packTxt HPL.out hbl k);clear H hL hok;go_enter Tryz.func58, Tryz.ntmps58
 go_wp2_with fail
 obtain ⟨F1, hF1, _⟩ := tell_world H0.out;refine (world_packets w gw F1 h hF1 hbl).mono ?_;rintro e w1 ⟨A1, c1, rfl, ho1, hx1, hf1⟩;have H1 := lh (H0.out.newList hx1 ho1 hf1).exch';clear hF1 ho1 hx1 hf1 H0 hds;go_wp2_with fail
 go_loopw [12] (fun i wr => PkRel S x W gd gw t h (.slice A1 h.bag.length c1) i wr) (fun i _ => h.bag.length - (intOf i).toNat)
 case atStart => exact ⟨0, rfl, Nat.zero_le _, by simpa using H1.out⟩
 case round =>
  clear H1;obtain ⟨k, rfl, hk, hz⟩ := hrel;have HZ := lh hz;have hlen := HFL.out k;clear hz;by_cases hlt : k < h.bag.length
  ·obtain ⟨p, hp⟩ : ∃ p, h.bag[k]? = some p := ⟨h.bag[k], by simp [hlt]⟩
   obtain ⟨ad, rfl, hadb, hat⟩ := HZ.out.left.right.owns.reads _ p hp;have hLV : LV Tryz.prog 103 (ad.add (k * 9)) wr = .ok (.agg p.cells) wr := LV_Packet hat
   have HP := lh hp;obtain ⟨htk, hsa, hsc⟩ := HTL.out p (List.mem_of_getElem? hp);have HTK := lh htk;have HSA := lh hsa;have HSC := lh hsc;have HPT := lh (HPL.out p (List.mem_of_getElem? hp));have hcs := ct_size htk.call;have HFT := lh (cat_take packTxt hp);clear hp hat htk hsa hsc hadb;have H2 := lh (HZ.out.box p.cells 103).exch';go_upto_region 3 with fail
   clear hLV;generalize wr.alloc (.cells p.cells 103) = w2 at H2 ⊢;generalize wr.heap.size = b at H2 ⊢;have hb2 := H2.out.left.blk;go_wp2_with fail
   refine (line_call w2 p.call HSC.out).mono ?_;rintro e w3 ⟨rfl, hx3⟩;have H3 := lh (H2.out.step hx3);have hb3 := H3.out.left.blk;clear hx3 H2 hb2;have hc0 := (cell_of hb3 0).trans (Packet.get0 p);cases hrp : p.reply with
   | true =>
     rw [hrp] at hc0;have HT := lh (show packTxt p = say (wReply :: recWords p.client p.no p.call p.answer) by unfold packTxt; rw [if_pos hrp]);clear hrp;go_wp2_with fail
     refine wp_region_held_drew (S := fun w' => w'.heap[b]? = some (.cells p.cells 103 (0, 0))) (by kernel_rfl) (H3.out.step (Touch.drew (Touch.refl _ w3))).left.blk (fun hHeld => ?_);have H4 := lh (H3.out.step (Touch.drew (Touch.refl _ w3)));clear H3 hb3 hc0;refine tK 0 ?_;try simp only [pS]
     refine tK 1 ?_;try simp only [pS]
     refine tK 4 ?_;try simp only [pS]
     refine tK 7 ?_;try simp only [pS]
     refine tK 9 ?_;try simp only [pS]
     refine tK 2 ?_ (hY := fun w' hw' => by
      have hc := (cell_of hw' 1).trans (Packet.get1 p);go_simp;try with_reducible rfl)
     try simp only [pS]
     refine tK 5 ?_ (hY := fun w' hw' => by
      have hc := (cell_of hw' 2).trans (Packet.get2 p);go_simp;try with_reducible rfl)
     try simp only [pS]
     refine tV 8 (.string ((callText p.call).1 ++ (⟨#[58]⟩ : ByteArray))) ?_ ?_
     ·intro w' _;go_simp;omega
     try simp only [pS]
     refine tK 10 ?_;try simp only [pS]
     refine tC 3 fun K hK => ?_;go_simp;go_at_call 27
     refine (desk_num _ p.client HTK.out.client (HL.out.ext H4.out.ext).laid).mono ?_;rintro e w5 ⟨rfl, hx5⟩;have H5 := lh (H4.out.step hx5);refine hK.out _ _ H5.out.left.blk (fun hHeld => ?_);clear hx5 H4;clear hK K;try simp only [pS]
     refine tC 6 fun K hK => ?_;go_simp;go_at_call 27
     refine (desk_num _ p.no HTK.out.no (HL.out.ext H5.out.ext).laid).mono ?_;rintro e w6 ⟨rfl, hx6⟩;have H6 := lh (H5.out.step hx6);refine hK.out _ _ H6.out.left.blk (fun hHeld => ?_);clear hx6 H5;clear hK K;try simp only [pS]
     refine tC 11 fun K hK => ?_;go_simp;go_at_call 96
     refine (line_answer _ p.answer ⟨by have := HSA.out.lo; omega, by have := HSA.out.hi; omega⟩ (by have := HSA.out.text; omega) (HL.out.ext H6.out.ext).laid).mono ?_;rintro e w7 ⟨rfl, hx7⟩;have H7 := lh (H6.out.step hx7);refine hK.out _ _ H7.out.left.blk (fun hHeld => ?_);clear hx7 H6;clear hK K;try simp only [pS]
     refine tC 12 fun K hK => ?_;go_simp;refine hK.out _ _ (H7.out.step ((Touch.refl _ w7).alloc _)).left.blk (fun hHeld => ?_);clear hK K;try simp only [pS]
     refine tC 13 fun K hK => ?_;go_simp;go_at_call 26
     refine (say_lit' H7.out [⟨#[114, 101, 112, 108, 121]⟩, mkStr (Lib.itoa p.client), mkStr (Lib.itoa p.no), (callText p.call).1 ++ (⟨#[58]⟩ : ByteArray), mkStr (ansLine p.answer)] (by simp) (by simp only [List.length_append]; omega) rfl rfl ((reply_say p.client p.no p.call p.answer).trans HT.out.symm) (by have := HPT.out; omega)).mono ?_;rintro e w8 ⟨rfl, H8⟩;rw [List.append_assoc, <- HFT.out] at H8;have HX := lh H8.drop;refine hK.out _ _ H8.left.blk (fun hHeld => ?_);clear H8;clear hK K;try simp only [pS]
     refine tD ?_;clear hHeld;go_wp2
     go_roundw
     case rel => exact ⟨k + 1, by go_num, by omega, HX.out⟩
     case measure => simp [intOf]; omega
   | false =>
     rw [hrp] at hc0;have HT := lh (show packTxt p = say [wCall, Lib.itoa p.client, Lib.itoa p.no, cText p.call] by unfold packTxt; rw [if_neg (by rw [hrp]; decide)]);clear hrp;go_wp2_with fail
     refine wp_region_held_drew (S := fun w' => w'.heap[b]? = some (.cells p.cells 103 (0, 0))) (by kernel_rfl) (H3.out.step (Touch.drew (Touch.refl _ w3))).left.blk (fun hHeld => ?_);have H4 := lh (H3.out.step (Touch.drew (Touch.refl _ w3)));clear H3 hb3 hc0;refine tK 0 ?_;try simp only [pS]
     refine tK 1 ?_;try simp only [pS]
     refine tK 4 ?_;try simp only [pS]
     refine tK 7 ?_;try simp only [pS]
     refine tK 2 ?_ (hY := fun w' hw' => by
      have hc := (cell_of hw' 1).trans (Packet.get1 p);go_simp;try with_reducible rfl)
     try simp only [pS]
     refine tK 5 ?_ (hY := fun w' hw' => by
      have hc := (cell_of hw' 2).trans (Packet.get2 p);go_simp;try with_reducible rfl)
     try simp only [pS]
     refine tC 3 fun K hK => ?_;go_simp;go_at_call 27
     refine (desk_num _ p.client HTK.out.client (HL.out.ext H4.out.ext).laid).mono ?_;rintro e w5 ⟨rfl, hx5⟩;have H5 := lh (H4.out.step hx5);refine hK.out _ _ H5.out.left.blk (fun hHeld => ?_);clear hx5 H4;clear hK K;try simp only [pS]
     refine tC 6 fun K hK => ?_;go_simp;go_at_call 27
     refine (desk_num _ p.no HTK.out.no (HL.out.ext H5.out.ext).laid).mono ?_;rintro e w6 ⟨rfl, hx6⟩;have H6 := lh (H5.out.step hx6);refine hK.out _ _ H6.out.left.blk (fun hHeld => ?_);clear hx6 H5;clear hK K;try simp only [pS]
     refine tC 8 fun K hK => ?_;go_simp;refine hK.out _ _ (H6.out.step ((Touch.refl _ w6).alloc _)).left.blk (fun hHeld => ?_);clear hK K;try simp only [pS]
     refine tC 9 fun K hK => ?_;go_simp;go_at_call 26
     refine (say_lit' H6.out [⟨#[99, 97, 108, 108]⟩, mkStr (Lib.itoa p.client), mkStr (Lib.itoa p.no), (callText p.call).1] (by simp) (by simp only [List.length_append]; omega) rfl rfl ((call_say p.client p.no p.call).trans HT.out.symm) (by have := HPT.out; omega)).mono ?_;rintro e w8 ⟨rfl, H8⟩;rw [List.append_assoc, <- HFT.out] at H8;have HX := lh H8.drop;refine hK.out _ _ H8.left.blk (fun hHeld => ?_);clear H8;clear hK K;try simp only [pS]
     refine tD ?_;clear hHeld;go_wp2
     go_roundw
     case rel => exact ⟨k + 1, by go_num, by omega, HX.out⟩
     case measure => simp [intOf]; omega
  ·obtain rfl : k = h.bag.length := by omega
   have HE := lh (show t ++ (h.bag.take h.bag.length).flatMap packTxt ++ say [wEnd] = t ++ (h.bag.flatMap packTxt ++ say [wEnd]) by rw [List.take_length, List.append_assoc]);go_wp2_with fail
   refine (say_lit' HZ.out [sEnd] (by decide) (by simp only [List.length_append]; omega) rfl rfl end_say (by decide)).mono ?_;rintro e w2 ⟨rfl, H2⟩;rw [HE.out] at H2;go_wp2
   go_end0
   exact ⟨rfl, H2.drop⟩
end
theorem own_bytesIn {w : World} {A : Option Addr} {c : Nat} {l : List UInt8} (h : Owns w 5 (.slice A l.length c) l) : BytesIn w.heap.size w A l.length c l := by
 obtain ⟨_, _, e, hc, hm, hr⟩ := h.form;cases e;exact ⟨rfl, hc, hm, hr, Nat.le_refl _⟩
theorem storyRec_at {L : List Record} {k : Nat} {r : Record} (h : L[k]? = some r) : storyRec L k = r := by
 unfold storyRec;rw [if_neg (by omega), show ((k : Int)).toNat = k from rfl, h];rfl
section
variable {X : Type} {S : Rep X} {x : X} {W w : World} {gd gw : Nat} {t : List UInt8} {h : House}
theorem tell_cl (H : Has (TR S gd gw) W w (x, (t, h))) (n : Int) (hn : 0 <= n /\ n < 3) : ∃ gc Fc, (repCl gc).on w Fc (h.G n.toNat) /\
 Calls Tryz.prog 85 #[.pointer (some ⟨gw, 0, none⟩), .int .i64 n] w (fun e w' => e = .returned (.pointer (some ⟨gc, 0, none⟩)) /\ w = w') := by
 obtain ⟨F, hF, _⟩ := tell_world H;obtain ⟨gs, c0, c1, c2, gp, A⟩ := world_open hF;obtain ⟨_, Fc, hFc, _⟩ := A.client (show n.toNat < 3 by omega);exact ⟨pick3 c0 c1 c2 n.toNat, Fc, hFc, world_client w gw gs c0 c1 c2 gp A.cell n hn⟩
theorem tell_store (H : Has (TR S gd gw) W w (x, (t, h))) : ∃ gs Fs, w.cell? ⟨gw, 0, none⟩ = some (.pointer (some ⟨gs, 0, none⟩)) /\ (repStore gs).on w Fs h.S := by
 obtain ⟨F, hF, _⟩ := tell_world H;obtain ⟨gs, c0, c1, c2, gp, A⟩ := world_open hF;obtain ⟨Fs, hFs, _⟩ := A.store;exact ⟨gs, Fs, (cell_of A.cell 0).trans rfl, hFs⟩
def DnRel {Y : Type} (R : Rep Y) (y : Y) (W : World) (gd gw : Nat) (t : List UInt8) (h : House) (L : List Record) (i : Value) (wr : World) : Prop :=
 ∃ k : Nat, i = .int .i64 k /\ k <= L.length /\ Has (TR R gd gw) W wr (y, (t ++ (L.take k).flatMap recTxt, h))
theorem desk_done_no (H : Has (TR S gd gw) W w (x, (t, h))) (hL : LaidD W) (n : Int) (hn : ¬ (0 <= n /\ n < 3)) (ht : t.length <= 100000000) :
 Calls Tryz.prog 59 #[.pointer (some ⟨gd, 0, none⟩), .int .i64 n] w (Tells S x W gd gw (t ++ dCode 9, h) (.tuple #[])) := by
 have HL := lh hL;have H0 := lh H;have hds := tell_ds H;have HN := lh hn;clear H hL hn;go_enter Tryz.func59, Tryz.ntmps59
 go_wp2_with fail
 refine (world_client_no w gw n HN.out).mono ?_;rintro e w1 ⟨rfl, rfl⟩;go_wp2_with fail
 refine (desk_num w 9 ⟨by decide, by decide⟩ (HL.out.ext H0.out.ext).laid).mono ?_;rintro e w3 ⟨rfl, hx3⟩;have H3 := lh (H0.out.step hx3);clear hx3;go_wp2_with fail
 refine (say_lit' H3.out [sNo, mkStr (Lib.itoa 9)] (by simp) (by omega) rfl rfl (say_code (c := 9) (by rw [if_pos (by decide)])) (Nat.le_trans (dCode_len (by decide)) (by decide))).mono ?_;rintro e w4 ⟨rfl, H4⟩;go_wp2
 go_end0
 exact ⟨rfl, H4⟩
theorem desk_done (H : Has (TR S gd gw) W w (x, (t, h))) (hL : LaidD W) (hok : DeskOk h) (n : Int) (hn : 0 <= n /\ n < 3) (ht : t.length <= 100000000) :
 Calls Tryz.prog 59 #[.pointer (some ⟨gd, 0, none⟩), .int .i64 n] w (Tells S x W gd gw (t ++ ((h.G n.toNat).done.flatMap recTxt ++ say [wEnd]), h) (.tuple #[])) := by
 have HL := lh hL;have H0 := lh H;have hds := tell_ds H;obtain ⟨gc, Fc, hFc, hcl⟩ := tell_cl H n hn;have HFC := lh hFc
 have HTL := lh (show ∀ r ∈ (h.G n.toNat).done, TellOk r.client r.no r.call /\ ShortAns r.answer /\ StrCall r.call from fun r hr => by
  obtain ⟨⟨fr, h1⟩, h2⟩ := hok;have h3 := tell_done h1 (i := n.toNat) (by omega) hr;exact ⟨h3, h2.done _ r hr, code_str h3.call⟩)
 have HPL := lh (show ∀ r ∈ (h.G n.toNat).done, (recTxt r).length <= 250 from fun r hr => recTxt_len (HTL.out r hr).1 (HTL.out r hr).2.1);have hbl : (h.G n.toNat).done.length <= 200 := by obtain ⟨⟨fr, h1⟩, _⟩ := hok; exact gOk_done (h1.guest n.toNat (by omega))
 have HFL := lh (fun k => cat_take_len recTxt HPL.out hbl k);clear H hL hok hn hFc;go_enter Tryz.func59, Tryz.ntmps59
 go_wp2_with fail
 refine hcl.mono ?_;rintro e w' ⟨rfl, rfl⟩;clear hcl;go_wp2_with fail
 refine (client_done' w Fc gc (h.G n.toNat) HFC.out (by omega)).mono ?_;generalize (h.G n.toNat).done = L at *;rintro e w1 ⟨A1, c1, rfl, ho1, hx1, hf1⟩;have H1 := lh (H0.out.newList hx1 ho1 hf1).exch';clear ho1 hx1 hf1 H0 hds HFC;go_wp2_with fail
 go_loopw [22] (fun i wr => DnRel (S.and ORk) (x, (.slice A1 L.length c1, L)) W gd gw t h L i wr) (fun i _ => L.length - (intOf i).toNat)
 case atStart => exact ⟨0, rfl, Nat.zero_le _, by simpa using H1.out⟩
 case round =>
  clear H1;obtain ⟨k, rfl, hk, hz⟩ := hrel;have HZ := lh hz;have hlen := HFL.out k;clear hz;by_cases hlt : k < L.length
  ·obtain ⟨r, hp⟩ : ∃ r, L[k]? = some r := ⟨L[k], by simp [hlt]⟩
   obtain ⟨ad, rfl, hadb, hat⟩ := HZ.out.left.right.owns.reads _ r hp;have hLV : LV Tryz.prog 112 (ad.add (k * 8)) wr = .ok (.agg r.cells) wr := LV_Record hat
   obtain ⟨htk, hsa, hsc⟩ := HTL.out r (List.mem_of_getElem? hp);have HTK := lh htk;have HSA := lh hsa;have HSC := lh hsc;have HFT := lh (cat_take recTxt hp);clear hp hat htk hsa hsc hadb;have H2 := lh (HZ.out.box r.cells 112).exch';go_upto_region 6 with fail
   clear hLV;generalize wr.alloc (.cells r.cells 112) = w2 at H2 ⊢;generalize wr.heap.size = b at H2 ⊢;have hb2 := H2.out.left.blk;go_wp2_with fail
   refine (desk_record H2.out HL.out r HTK.out HSA.out HSC.out (by simp only [List.length_append]; omega)).mono ?_;rintro e w3 ⟨rfl, H3⟩;rw [List.append_assoc, <- HFT.out] at H3;have H4 := lh H3.drop;clear H3 H2 hb2;go_wp2
   go_roundw
   case rel => exact ⟨k + 1, by go_num, by omega, H4.out⟩
   case measure => simp [intOf]; omega
  ·obtain rfl : k = L.length := by omega
   have HE := lh (show t ++ (L.take L.length).flatMap recTxt ++ say [wEnd] = t ++ (L.flatMap recTxt ++ say [wEnd]) by rw [List.take_length, List.append_assoc]);go_wp2_with fail
   refine (say_lit' HZ.out [sEnd] (by decide) (by simp only [List.length_append]; omega) rfl rfl end_say (by decide)).mono ?_;rintro e w2 ⟨rfl, H2⟩;rw [HE.out] at H2;go_wp2
   go_end0
   exact ⟨rfl, H2.drop⟩
theorem desk_log (H : Has (TR S gd gw) W w (x, (t, h))) (hL : LaidD W) (hok : DeskOk h) (ht : t.length <= 100000000) :
 Calls Tryz.prog 60 #[.pointer (some ⟨gd, 0, none⟩)] w (Tells S x W gd gw (t ++ (h.S.flatMap recTxt ++ say [wEnd]), h) (.tuple #[])) := by
 have HL := lh hL;have H0 := lh H;have hds := tell_ds H;obtain ⟨gs, Fs, hgs, hFs⟩ := tell_store H;have HFS := lh hFs;have HLO := lh (show LogOk h.S by obtain ⟨⟨fr, h1⟩, _⟩ := hok; exact h1.log)
 have HTL := lh (show ∀ r ∈ h.S, TellOk r.client r.no r.call /\ ShortAns r.answer /\ StrCall r.call from fun r hr => by
  obtain ⟨⟨fr, h1⟩, h2⟩ := hok;have h3 := tell_log h1 hr;exact ⟨h3, rec_short (h1.log.each r hr), code_str h3.call⟩)
 have HPL := lh (show ∀ r ∈ h.S, (recTxt r).length <= 250 from fun r hr => recTxt_len (HTL.out r hr).1 (HTL.out r hr).2.1)
 have hbl : h.S.length <= 300 := by
  have h1 := logLen8 HLO.out.each;have h2 := HLO.out.len;omega
 have hbb := HLO.out.len;have HRA := lh (recAll_log HLO.out.each);have HFL := lh (fun k => cat_take_len recTxt HPL.out hbl k);clear H hL hok hFs;go_enter Tryz.func60, Tryz.ntmps60
 go_wp2_with fail
 refine (store_logs w gs Fs h.S HFS.out HLO.out).mono ?_;rintro e w1 ⟨A1, c1, rfl, ho1, hx1, _⟩;have H1 := lh (H0.out.step hx1);have HB := lh (own_bytesIn ho1);clear ho1 hx1 H0 hds HFS hgs;go_wp2_with fail
 refine (story_of_has w1 A1 _ c1 (logBytes h.S) HB.out (by omega)).mono ?_;unfold SofHas;rw [HRA.out];rintro e w2 ⟨g, rfl, _, _, _, hs2⟩;have H2 := lh (H1.out.both hs2).exch';clear hs2 H1 HB;obtain ⟨F3, hF3⟩ := H2.out.left.right_on;go_wp2_with fail
 refine (story_len w2 g h.S _ (story_at hF3)).mono ?_;rintro e w' ⟨rfl, rfl⟩;clear hF3;go_wp2_with fail
 go_loopw [17] (fun i wr => DnRel (S.and (repStory g)) (x, h.S) W gd gw t h h.S i wr) (fun i _ => h.S.length - (intOf i).toNat)
 case atStart => exact ⟨0, rfl, Nat.zero_le _, by simpa using H2.out⟩
 case round =>
  clear H2;obtain ⟨k, rfl, hk, hz⟩ := hrel;have HZ := lh hz;have hlen := HFL.out k;clear hz;by_cases hlt : k < h.S.length
  ·obtain ⟨r, hp⟩ : ∃ r, h.S[k]? = some r := ⟨h.S[k], by simp [hlt]⟩
   obtain ⟨htk, hsa, hsc⟩ := HTL.out r (List.mem_of_getElem? hp);have HTK := lh htk;have HSA := lh hsa;have HSC := lh hsc;have HFT := lh (cat_take recTxt hp);have hsr : storyRec h.S k = r := storyRec_at hp;clear hp htk hsa hsc;obtain ⟨F3, hF3⟩ := HZ.out.left.right_on;go_wp2_with fail
   refine (story_record wr g h.S _ k (story_at hF3)).mono ?_;unfold SRecPost;rw [hsr];rintro e w3 ⟨rfl, hx3⟩;have H3 := lh (HZ.out.step hx3);clear hx3 hF3 hsr;have H4 := lh (H3.out.box r.cells 112).exch';go_upto_region 5 with fail
   generalize w3.alloc (.cells r.cells 112) = w4 at H4 ⊢;generalize w3.heap.size = b at H4 ⊢;have hb2 := H4.out.left.blk;go_wp2_with fail
   refine (desk_record H4.out HL.out r HTK.out HSA.out HSC.out (by simp only [List.length_append]; omega)).mono ?_;rintro e w5 ⟨rfl, H5⟩;rw [List.append_assoc, <- HFT.out] at H5;have H6 := lh H5.drop;clear H5 H4 H3 hb2;go_wp2
   go_roundw
   case rel => exact ⟨k + 1, by go_num, by omega, H6.out⟩
   case measure => simp [intOf]; omega
  ·obtain rfl : k = h.S.length := by omega
   have HE := lh (show t ++ (h.S.take h.S.length).flatMap recTxt ++ say [wEnd] = t ++ (h.S.flatMap recTxt ++ say [wEnd]) by rw [List.take_length, List.append_assoc]);go_wp2_with fail
   refine (say_lit' HZ.out [sEnd] (by decide) (by simp only [List.length_append]; omega) rfl rfl end_say (by decide)).mono ?_;rintro e w2 ⟨rfl, H2⟩;rw [HE.out] at H2;go_wp2
   go_end0
   exact ⟨rfl, H2.drop⟩
theorem textAt_at {L : List Record} {n : Int} (hn : 0 <= n /\ n <= L.length) : textAt (storyTexts L) n = mkStr (fshow (fbehind (L.take n.toNat))) := by
 unfold textAt;rw [if_neg (by omega), storyTexts_at L (show n.toNat <= L.length by omega)];rfl
theorem desk_then (H : Has (TR S gd gw) W w (x, (t, h))) (hL : LaidD W) (hok : DeskOk h) (n : Int) (ht : t.length <= 100000000) (T : List UInt8) (hT : T = if 0 <= n /\ n <= h.S.length then fshow (fbehind (h.S.take n.toNat)) ++ say [wEnd] else dCode 9) :
 Calls Tryz.prog 61 #[.pointer (some ⟨gd, 0, none⟩), .int .i64 n] w (Tells S x W gd gw (t ++ T, h) (.tuple #[])) := by
 have HTT := lh hT;clear hT;have HL := lh hL;have H0 := lh H;have hds := tell_ds H;obtain ⟨gs, Fs, hgs, hFs⟩ := tell_store H;have HFS := lh hFs;have HLO := lh (show LogOk h.S by obtain ⟨⟨fr, h1⟩, _⟩ := hok; exact h1.log);have hbb := HLO.out.len;have HRA := lh (recAll_log HLO.out.each);clear H hL hok hFs;go_enter Tryz.func61, Tryz.ntmps61
 go_wp2_with fail
 refine (store_logs w gs Fs h.S HFS.out HLO.out).mono ?_;rintro e w1 ⟨A1, c1, rfl, ho1, hx1, _⟩;have H1 := lh (H0.out.step hx1);have HB := lh (own_bytesIn ho1);clear ho1 hx1 H0 hds HFS hgs;go_wp2_with fail
 refine (story_of_has w1 A1 _ c1 (logBytes h.S) HB.out (by omega)).mono ?_;unfold SofHas;rw [HRA.out];rintro e w2 ⟨g, rfl, hx2, hs2, _, _⟩;have H2 := lh (H1.out.step hx2);clear hx2 H1 HB;go_wp2_with fail
 refine (story_text w2 g h.S _ n hs2 (length_storyTexts _)).mono ?_;clear hs2;by_cases hn : 0 <= n /\ n <= h.S.length
 ·have HN := lh hn;have HT := lh (textAt_at hn);have hfs := fshow_len (fbehind_ok (h.S.take n.toNat));unfold STextPost;rw [decide_eq_true hn];clear hn;rintro e w' ⟨rfl, rfl⟩;generalize textAt (storyTexts h.S) n = s at *;have hss : s.size <= 138 := by rw [HT.out, mkStr_size]; omega
  go_wp2_with fail
  obtain ⟨p, v, hA, _, hm⟩ := tell_open H2.out;refine (desk_write w2 gd gw p v t s hA (by omega)).mono ?_;rintro e w3 ⟨rfl, v', hA', ht', hf'⟩;have H3 := lh (hm _ _ _ _ hA' ht' hf');clear hA hm hA' ht' hf' H2;have hln : (t ++ s.toList).length <= 900000000 := by rw [List.length_append, length_toList']; omega
  go_wp2_with fail
  refine (say_lit' H3.out [sEnd] (by decide) (by omega) rfl rfl end_say (by decide)).mono ?_;rintro e w4 ⟨rfl, H4⟩;go_wp2
  go_end0
  refine ⟨rfl, ?_⟩;rw [HTT.out, if_pos HN.out]
  have hE : t ++ s.toList ++ say [wEnd] = t ++ (fshow (fbehind (h.S.take n.toNat)) ++ say [wEnd]) := by
   rw [HT.out, mkStr_toList, List.append_assoc]
  rw [hE] at H4;exact H4
 ·have HN := lh hn;unfold STextPost;rw [decide_eq_false hn];clear hn;rintro e w' ⟨rfl, rfl⟩;go_wp2_with fail
  refine (desk_num w2 9 ⟨by decide, by decide⟩ (HL.out.ext H2.out.ext).laid).mono ?_;rintro e w3 ⟨rfl, hx3⟩;have H3 := lh (H2.out.step hx3);clear hx3;go_wp2_with fail
  refine (say_lit' H3.out [sNo, mkStr (Lib.itoa 9)] (by simp) (by omega) rfl rfl (say_code (c := 9) (by rw [if_pos (by decide)])) (Nat.le_trans (dCode_len (by decide)) (by decide))).mono ?_;rintro e w4 ⟨rfl, H4⟩;go_wp2
  go_end0
  exact ⟨rfl, by rw [HTT.out, if_neg HN.out]; exact H4⟩
end
end Go.Proofs.YtalfbhhldfffkaaGreatDoor
