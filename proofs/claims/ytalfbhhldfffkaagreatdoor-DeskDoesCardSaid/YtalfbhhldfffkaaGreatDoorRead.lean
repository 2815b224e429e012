/- Read: what an argument that can be read looks like in cells; how a law is closed. Printed by gen_read.py. -/
import Derived.Test.YtalfbhhldfffkaaGreatDoorRows
import Derived.Test.YtalfbhhldfffkaaGreatDoorTypes
import Derived.ProofKit
import Derived.OpenShut
import Derived.SizedLaws
import Derived.Deep.Slices
set_option maxHeartbeats 8000000
set_option maxRecDepth 100000
namespace Go.Proofs.YtalfbhhldfffkaaGreatDoor
open Go.RowKit
end Go.Proofs.YtalfbhhldfffkaaGreatDoor
namespace Go.Proofs.YtalfbhhldfffkaaGreatDoor
open Go.ChangeShapes Go.WideShapes Go.ChangeAt Go.RowKit
def I64 (n : Int) : Prop := -9223372036854775808 <= n /\ n <= 9223372036854775807
def Str (s : ByteArray) : Prop := s.size <= 140737488351232
structure CanRead (P : Program) (ty : TypeId) {α : Type} (cells : α -> List Value) (ok : α -> Prop) : Prop where
 get : ∀ {H : Type} {enc : TypeId × Value -> H} {w : World} {base : Nat} {spare : Nat -> Bool} {held : Bool} {fuel : Nat} {cs : List Value} {x : DataW H × List MemPlace},
  DataW.trod enc P w base spare held fuel ty cs = some x -> (∀ k ∈ x.1.weights P ty, k <= reachBytes) -> ∃ y, cs = cells y /\ ok y
theorem can_str {P : Program} {ty : TypeId} (h : P.underlying ty = some .string) : CanRead P ty (fun n : ByteArray => [.string n]) Str := ⟨fun ht hw => by
 obtain ⟨n, h1, h2, _⟩ := DataW.trod_string h ht;refine ⟨n, h1, ?_⟩;subst h2;have e : n.data.toList.length = n.size := Array.length_toList;have h4 := hw n.data.toList.length (by rw [DataW.weights]; exact List.mem_singleton.2 rfl);rw [e] at h4;exact h4⟩
theorem open_reads {H : Type} {enc : TypeId × Value -> H} {P : Program} {W : World} {spare : Nat -> Bool} {held : Bool} {t e : TypeId} {α : Type} [Lies α] {ok : α -> Prop} (hc : CanRead P e (fun x : α => (Lies.cells x).toList) ok)
 (ht : P.underlying t = some (.slice e)) (hn : P.cellsOf e = Lies.size α) {r : Reach} {b0 : Nat} {v : Value} {d : DataW H} {p : List MemPlace} (hval : Value.okWide P W r b0 t v)
 (h : DataW.Trod enc P W 0 spare held t v d p) (hw : ∀ k ∈ d.weights P t, k <= reachBytes) :
 ∃ A c, ∃ l : List α, v = .slice A l.length c /\ l.length <= c /\ Reads W W.heap.size A l /\ (A = none -> l = []) /\ (∀ x ∈ l, ok x) /\ l.length * P.bytesOf e <= reachBytes := by
 obtain ⟨A, len, cap, rfl⟩ := okWide_slice ht hval;obtain ⟨fuel, hf⟩ := h;simp only [Value.cells] at hf;rcases Deep.open_slice ht hf with ⟨hcs, _⟩ | ⟨a, len', cap', m, n, D, Pl, hcs, _, hl, hm, hmm, hx, hi⟩
 ·simp at hcs;obtain ⟨rfl, rfl, rfl⟩ := hcs;exact ⟨none, 0, [], rfl, Nat.le_refl _, Reads.nil _ _ _, fun _ => rfl, fun x hx => (by cases hx), by simp⟩
 ·simp at hcs;obtain ⟨rfl, rfl, rfl⟩ := hcs;have hml : len <= m := by rw [hmm]; split <;> omega
  injection hx with hx1 hx2;subst hx1
  have hwl : ∀ i, i < len -> ∀ k ∈ (D i).weights P e, k <= reachBytes := fun i hilt k hk => by
   refine hw k ?_;simp only [DataW.weights, ht, List.mem_cons, List.mem_append];right; left
   have : ∀ (l : List (DataW H)) (x : DataW H), x ∈ l -> k ∈ x.weights P e -> k ∈ DataW.weightsAll P e l := by
    intro l;induction l with
    | nil => intro x hx; cases hx
    | cons y l ih =>
      intro x hx hk;simp only [DataW.weightsAll, List.mem_append];rcases List.mem_cons.1 hx with rfl | hx
      ·exact .inl hk
      ·exact .inr (ih x hx hk)
   exact this _ (D i) (List.mem_map.2 ⟨i, List.mem_range.2 hilt, rfl⟩) hk
  have hex : ∀ i, i < len -> ∃ y : α, ok y /\ At W (a.add (i * Lies.size α)) y /\ a.block < W.heap.size := fun i hilt => by
   obtain ⟨cs', h1, h2⟩ := hi i (by omega);obtain ⟨y, hy, hok⟩ := hc.get h2 (hwl i hilt);subst hy;rw [hn] at h1;obtain ⟨_, _, hat⟩ := World.cells?_some h1
   have hat' : At W (a.add (i * Lies.size α)) y := fun j v hv => by
    have hj : j < Lies.size α := by rw [<- Lies.size_eq y]; exact (aG hv).1
    rw [hat j hj];simpa using hv
   refine ⟨y, hok, hat', ?_⟩;have hpos := Lies.pos (α := α);have h0 := hat' 0 _ (Array.getElem?_eq_getElem (by rw [Lies.size_eq]; exact hpos));have := World.block_lt_of_cell? W _ h0;have e : ((a.add (i * Lies.size α)).add 0).block = a.block := by unfold Addr.add; split <;> split <;> rfl
   rwa [e] at this
  have hlist : ∀ k, k <= len -> ∃ l : List α, l.length = k /\ ∀ i x, l[i]? = some x -> ok x /\ At W (a.add (i * Lies.size α)) x /\ a.block < W.heap.size := by
   intro k;induction k with
   | zero => exact fun _ => ⟨[], rfl, fun i x h => by simp at h⟩
   | succ k ih =>
     intro hk;obtain ⟨l, hl1, hl2⟩ := ih (by omega);obtain ⟨y, hy⟩ := hex k (by omega);refine ⟨l ++ [y], by simp [hl1], fun i x h => ?_⟩;rw [List.getElem?_append] at h;split at h
     ·exact hl2 i x h
     ·have : i = k := by
       have := (lG h).1;simp at this; omega
      subst this;simp [hl1] at h;subst h;exact hy
  obtain ⟨l, hl1, hl2⟩ := hlist len (Nat.le_refl _);subst hl1;refine ⟨some a, cap, l, rfl, hl, fun k x hk => ⟨a, rfl, (hl2 k x hk).2.2, (hl2 k x hk).2.1⟩, fun h => (by cases h), fun x hx => ?_, ?_⟩
  ·obtain ⟨i, hi'⟩ := List.mem_iff_getElem?.1 hx;exact (hl2 i x hi').1
  ·have := hw ((((List.range l.length).map D).length + ((List.range (m - l.length)).map fun j => D (l.length + j)).length) * P.bytesOf e) (by simp [DataW.weights, ht]);simp at this;exact Nat.le_trans (Nat.mul_le_mul_right _ (Nat.le_add_right _ _)) this
theorem Touch.below' {W W' : World} (h : Ext W W') : Below W.heap.size W W' := ⟨h.os, h.tape, h.output, h.size, fun k hk => h.block k hk id⟩
theorem trodAll_below {H : Type} {enc : TypeId × Value -> H} {P : Program} (hl : laidOutB P = true) {W W' : World} (hb : Below W.heap.size W W') :
 ∀ {ts : List TypeId} {vs : List Value} {ds : List (DataW H)} {p : List MemPlace}, (∀ t ∈ ts, P.readableRec t = true /\ t < P.types.size) -> (∀ x ∈ p, x.block < W.heap.size) ->
   DataW.TrodAll enc P W 0 (fun _ => true) true ts vs ds p -> DataW.TrodAll enc P W' 0 (fun b => decide (b < W.heap.size)) true ts vs ds p := by
 intro ts;induction ts with
 | nil =>
   intro vs ds p _ _ h;obtain ⟨rfl, rfl, rfl⟩ := trodAll_nil h;exact trodAll_mk0
 | cons t ts ih =>
   intro vs ds p hr hlt h;obtain ⟨v, vs', d, ds', p1, q, rfl, rfl, rfl, h1, h2⟩ := trodAll_cons h;obtain ⟨r1, r2⟩ := hr t (by simp);exact trodAll_cons_mk (Below.trod hl r1 r2 h1 hb fun x hx => hlt x (by simp [hx])) (ih (fun t ht => hr t (by simp [ht])) (fun x hx => hlt x (by simp [hx])) h2)
theorem law_post {H : Type} {enc : TypeId × Value -> H} {P : Program} {f : Func} {s : ChangeSpec} {tb : TypeId} (hl : laidOutB P = true) (hread : ∀ t ∈ f.params.toList, P.readableRec t = true /\ t < P.types.size)
 (hb : P.underlying tb = some .bool) (hres : f.resultTypes = #[tb]) (hv : s.vars = []) {W W' : World} {args : Array Value} {ds gs : List (DataW H)} {before : List MemPlace}
 (hW : DataW.Whole enc P f.params.toList s.vars false W args.toList ds gs before) (hs : s.fn H (ds ++ []) = { results := [.lit (.bool true)], args := ds }) (he : Ext W W') :
 s.post enc P f false true false false W args (.bool true) W' := by
 have hW' := hW;have hlt := hW.lt;obtain ⟨p, q, hA, hV, rfl, hfz, hnd⟩ := hW;rw [hv] at hV;obtain ⟨rfl, rfl⟩ := trodVars_none hV;have hbl := Touch.below' he;have e1 : (s.fn H (ds ++ [])).results = [.lit (.bool true)] := by rw [hs]
 have e2 : (s.fn H (ds ++ [])).args = ds := by rw [hs]
 have e3 : (s.fn H (ds ++ [])).vars = [] := by rw [hs]
 refine ⟨ds, [], _, [], p, [], hW', ?_, ?_, ?_, hbl.frame _, fun h => by cases h⟩
 ·rw [e1, hres];exact trodAll_mk1 (shut_bool hb true)
 ·rw [e2];exact trodAll_below hl hbl hread (fun x hx => hlt x (by simp [hx])) hA
 ·rw [hv, e3];exact rfl
end Go.Proofs.YtalfbhhldfffkaaGreatDoor
namespace Go.Proofs.YtalfbhhldfffkaaGreatDoor
open Go.RowKit
end Go.Proofs.YtalfbhhldfffkaaGreatDoor
