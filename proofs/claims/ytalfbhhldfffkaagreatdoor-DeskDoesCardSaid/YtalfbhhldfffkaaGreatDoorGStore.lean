/- Store1: how a store lies in memory: twenty-six cells, the files and the bytes that it owns. No program is walked here. (And behind it: Store2, Store3, Chest1, Chest2, Store4, Store5, Store6, Store7, Store8, LogUse.) -/
import Derived.Test.YtalfbhhldfffkaaGreatDoorGPlain
import Derived.Test.YtalfbhhldfffkaaGreatDoorGCodec
import Derived.Test.YtalfbhhldfffkaaGreatDoorGFiles
import Derived.Test.YtalfbhhldfffkaaGreatDoorFilesUse
import Derived.Test.YtalfbhhldfffkaaGreatDoorGDrawer
import Derived.Test.YtalfbhhldfffkaaGreatDoorRead
set_option maxHeartbeats 8000000
set_option maxRecDepth 100000
namespace Go.Proofs.YtalfbhhldfffkaaGreatDoor
open Go.RowKit
structure StoreD where
 fs : List FileD
 log : List UInt8
 t0 : Record
 t1 : Record
 t2 : Record
def chestD (L : List Record) : StoreD := ⟨fbehind L, logBytes L, lastRec L 0, lastRec L 1, lastRec L 2⟩
def StoreD.setT (x : StoreD) (k : Nat) (r : Record) : StoreD := match k with | 0 => { x with t0 := r } | 1 => { x with t1 := r } | _ => { x with t2 := r }
def StoreD.cells (x : StoreD) (gf : Nat) (v : Value) : Array Value :=
 #[.pointer (some ⟨gf, 0, none⟩), v,
   .int .i64 x.t0.client, .int .i64 x.t0.no, .int .i64 x.t0.call.kind, .string x.t0.call.name, .string x.t0.call.to_, .string x.t0.call.text, .int .i64 x.t0.answer.code, .string x.t0.answer.text,
   .int .i64 x.t1.client, .int .i64 x.t1.no, .int .i64 x.t1.call.kind, .string x.t1.call.name, .string x.t1.call.to_, .string x.t1.call.text, .int .i64 x.t1.answer.code, .string x.t1.answer.text,
   .int .i64 x.t2.client, .int .i64 x.t2.no, .int .i64 x.t2.call.kind, .string x.t2.call.name, .string x.t2.call.to_, .string x.t2.call.text, .int .i64 x.t2.answer.code, .string x.t2.answer.text]
@[go_sem, simp] theorem StoreD.size_cells (x : StoreD) (gf : Nat) (v : Value) : (x.cells gf v).size = 26 := rfl
@[go_sem, simp] theorem StoreD.get0 (x : StoreD) (gf : Nat) (v : Value) : (x.cells gf v)[0]? = some (.pointer (some ⟨gf, 0, none⟩)) := rfl
@[go_sem, simp] theorem StoreD.gete0 (x : StoreD) (gf : Nat) (v : Value) (h : 0 < (x.cells gf v).size) : (x.cells gf v)[0] = .pointer (some ⟨gf, 0, none⟩) := rfl
@[go_sem, simp] theorem StoreD.get1 (x : StoreD) (gf : Nat) (v : Value) : (x.cells gf v)[1]? = some v := rfl
@[go_sem, simp] theorem StoreD.gete1 (x : StoreD) (gf : Nat) (v : Value) (h : 1 < (x.cells gf v).size) : (x.cells gf v)[1] = v := rfl
@[go_sem, simp] theorem StoreD.get3 (x : StoreD) (gf : Nat) (v : Value) : (x.cells gf v)[3]? = some (.int .i64 x.t0.no) := rfl
@[go_sem, simp] theorem StoreD.gete3 (x : StoreD) (gf : Nat) (v : Value) (h : 3 < (x.cells gf v).size) : (x.cells gf v)[3] = .int .i64 x.t0.no := rfl
@[go_sem, simp] theorem StoreD.get11 (x : StoreD) (gf : Nat) (v : Value) : (x.cells gf v)[11]? = some (.int .i64 x.t1.no) := rfl
@[go_sem, simp] theorem StoreD.gete11 (x : StoreD) (gf : Nat) (v : Value) (h : 11 < (x.cells gf v).size) : (x.cells gf v)[11] = .int .i64 x.t1.no := rfl
@[go_sem, simp] theorem StoreD.get19 (x : StoreD) (gf : Nat) (v : Value) : (x.cells gf v)[19]? = some (.int .i64 x.t2.no) := rfl
@[go_sem, simp] theorem StoreD.gete19 (x : StoreD) (gf : Nat) (v : Value) (h : 19 < (x.cells gf v).size) : (x.cells gf v)[19] = .int .i64 x.t2.no := rfl
@[go_sem, simp] theorem StoreD.set1 (x : StoreD) (gf : Nat) (v u : Value) : (x.cells gf v).setIfInBounds 1 u = x.cells gf u := rfl
@[go_sem, simp] theorem StoreD.ext0 (x : StoreD) (gf : Nat) (v : Value) : (x.cells gf v).extract 2 10 = x.t0.cells := by simp [StoreD.cells, Record.cells]
@[go_sem, simp] theorem StoreD.ext1 (x : StoreD) (gf : Nat) (v : Value) : (x.cells gf v).extract 10 18 = x.t1.cells := by simp [StoreD.cells, Record.cells]
@[go_sem, simp] theorem StoreD.ext2 (x : StoreD) (gf : Nat) (v : Value) : (x.cells gf v).extract 18 26 = x.t2.cells := by simp [StoreD.cells, Record.cells]
@[go_sem, simp] theorem StoreD.splice0 (x : StoreD) (gf : Nat) (v : Value) (r : Record) : splice (x.cells gf v) r.cells 2 = StoreD.cells { x with t0 := r } gf v := by simp [splice, StoreD.cells, Record.cells]
@[go_sem, simp] theorem StoreD.splice1 (x : StoreD) (gf : Nat) (v : Value) (r : Record) : splice (x.cells gf v) r.cells 10 = StoreD.cells { x with t1 := r } gf v := by simp [splice, StoreD.cells, Record.cells]
@[go_sem, simp] theorem StoreD.splice2 (x : StoreD) (gf : Nat) (v : Value) (r : Record) : splice (x.cells gf v) r.cells 18 = StoreD.cells { x with t2 := r } gf v := by simp [splice, StoreD.cells, Record.cells]
section
variable {X Y Z : Type} {R : Rep X} {S : Rep Y} {O : Rep Z} {w w' wr : World} {F : Nat -> Prop} {x x' : X} {y y' : Y} {z z' : Z}
theorem Moved.opened (h : Moved R w F x wr) : ∃ F', R.on wr F' x /\ ∀ x' w', Moved R wr F' x' w' -> Moved R w F x' w' := by
 obtain ⟨F', h1, h2, h3⟩ := h;exact ⟨F', h1, fun x' w' m => Moved.after h2 h3 m⟩
theorem Rep.stays (h : R.on w F x) : Moved R w F x w := Rep.moved h (Touch.refl _ w)
theorem Moved.p1 (h : Moved ((R.and S).and O) w F ((x, y), z) wr) : ∃ F', R.on wr F' x /\ ∀ x' w', Moved R wr F' x' w' -> Moved ((R.and S).and O) w F ((x', y), z) w' := by
 obtain ⟨H, hH, hm⟩ := h.opened;obtain ⟨F1, hF1, hm1⟩ := Rep.fst hH;obtain ⟨F2, hF2, hm2⟩ := Rep.fst hF1;exact ⟨F2, hF2, fun x' w' m => hm _ _ (hm1 _ _ (hm2 _ _ m))⟩
theorem Moved.p2 (h : Moved ((R.and S).and O) w F ((x, y), z) wr) : ∃ F', S.on wr F' y /\ ∀ y' w', Moved S wr F' y' w' -> Moved ((R.and S).and O) w F ((x, y'), z) w' := by
 obtain ⟨H, hH, hm⟩ := h.opened;obtain ⟨F1, hF1, hm1⟩ := Rep.fst hH;obtain ⟨F2, hF2, hm2⟩ := Rep.snd hF1;exact ⟨F2, hF2, fun x' w' m => hm _ _ (hm1 _ _ (hm2 _ _ m))⟩
end
theorem Moved.turn {X Y : Type} {S : Rep X} {O : Rep Y} {w wr w' : World} {F : Nat -> Prop} {g : Nat} {T : TypeId} {cs cs' : Array Value} {x : X} {y : Y} (h : Moved (((repBlock g T).and S).and O) w F ((cs, x), y) wr)
 (ht : Touch (fun k => k = g) wr w') (hc : w'.heap[g]? = some (.cells cs' T (0, 0))) : Moved (((repBlock g T).and S).and O) w F ((cs', x), y) w' := by
 obtain ⟨F', hF, hm⟩ := h.p1;exact hm _ _ ⟨F', ⟨hF.1, hc⟩, ht.mono fun k hk => .inl ((hF.1 k).2 hk), Fresh.refl _ _⟩
theorem Moved.cell {X Y : Type} {S : Rep X} {O : Rep Y} {w wr : World} {F : Nat -> Prop} {g : Nat} {T : TypeId} {cs : Array Value} {x : X} {y : Y} (h : Moved (((repBlock g T).and S).and O) w F ((cs, x), y) wr) : wr.heap[g]? = some (.cells cs T (0, 0)) := by
 obtain ⟨F', hF, _⟩ := h.p1;exact hF.2
theorem Moved.own3 {X : Type} {S : Rep X} {α : Type} [Lies α] {E : TypeId} {w wr : World} {F : Nat -> Prop} {x : X} {v : Value} {l : List α} (h : Moved (S.and (repOwn E)) w F (x, (v, l)) wr) : Owns wr E v l := by
 obtain ⟨F', hF, _⟩ := h.opened;obtain ⟨G, hG, _⟩ := Rep.snd hF;exact hG.2
theorem Moved.append {X : Type} {S : Rep X} {α : Type} [Lies α] {E : TypeId} {w wr wx w' : World} {F : Nat -> Prop} {x : X} {v v' : Value} {l l' : List α} (h : Moved (S.and (repOwn E)) w F (x, (v, l)) wr) (hx : Ext wr wx) (hown : Owns w' E v' l') (hgrow : wx.grownBy w' v.ownBlock)
 (hat : v'.ownBlock = v.ownBlock \/ v'.ownBlock = some wx.heap.size) : Moved (S.and (repOwn E)) w F (x, (v', l')) w' := by
 obtain ⟨F', hF, hm⟩ := h.opened;obtain ⟨G, hG, hm2⟩ := Rep.snd hF;refine hm _ _ (hm2 _ _ ?_);obtain ⟨F'', h1, h2, h3⟩ := hG.2.moved hx hown hgrow hat
 exact ⟨F'', h1, h2.mono fun k hk => .inl ((hG.1 k).2 hk), fun k hk => (h3 k hk).imp (fun h => (hG.1 k).2 h) id⟩
abbrev SR (gs gf : Nat) : Rep ((Array Value × List FileD) × (Value × List UInt8)) := ((repBlock gs 115).and (repHolds gf 144 217)).and (repOwn 5)
def repStoreD (gs : Nat) : Rep StoreD where
 on w F x := ∃ gf u, (SR gs gf).on w F ((x.cells gf u, x.fs), (u, x.log))
 lt := by
  rintro w F x ⟨gf, u, h⟩;exact (SR gs gf).lt h
 keep := by
  rintro w w' F x ⟨gf, u, h⟩ hk;exact ⟨gf, u, (SR gs gf).keep h hk⟩
def repStore (gs : Nat) : Rep (List Record) where
 on w F L := (repStoreD gs).on w F (chestD L)
 lt h := (repStoreD gs).lt h
 keep h := (repStoreD gs).keep h
theorem Moved.shut {gs gf : Nat} {w w' : World} {F : Nat -> Prop} {x : StoreD} {u : Value} (h : Moved (SR gs gf) w F ((x.cells gf u, x.fs), (u, x.log)) w') : Moved (repStoreD gs) w F x w' := by
 obtain ⟨F', h1, h2, h3⟩ := h;exact ⟨F', ⟨gf, u, h1⟩, h2, h3⟩
theorem Moved.chest {gs : Nat} {w w' : World} {F : Nat -> Prop} {x : StoreD} {L : List Record} (h : Moved (repStoreD gs) w F x w') (he : chestD L = x) : Moved (repStore gs) w F L w' := by
 subst he;exact h
def NewStore (w : World) (x : StoreD) (gs : Nat) (w' : World) : Prop := Ext w w' /\ ∃ F, (repStoreD gs).on w' F x /\ ∀ k, F k -> w.heap.size <= k
theorem lastRec_append (L : List Record) (r : Record) (c : Int) : lastRec (L ++ [r]) c = if r.client = c then r else lastRec L c := by
 unfold lastRec;rw [lastOf_append];by_cases h : r.client = c <;> simp [h]
def openD (L : List Record) : StoreD := ⟨fbehind L, [], lastRec L 0, lastRec L 1, lastRec L 2⟩
theorem openD_append (L : List Record) (r : Record) (j : Nat) (hj : j < 3) (hc : r.client = j) : openD (L ++ [r]) = StoreD.setT { openD L with fs := (fdo (fbehind L) r.call).2 } j r := by
 unfold openD;rw [fbehind_append, lastRec_append, lastRec_append, lastRec_append, hc];match j, hj with
 | 0, _ => rfl
 | 1, _ => rfl
 | 2, _ => rfl
theorem take_next {α : Type} {L : List α} {k : Nat} {r : α} (h : L[k]? = some r) : L.take (k + 1) = L.take k ++ [r] := by rw [List.take_add_one, h]; rfl
theorem openD_next {L : List Record} {k : Nat} {r : Record} (h : L[k]? = some r) (j : Nat) (hj : j < 3) (hc : r.client = j) : openD (L.take (k + 1)) = StoreD.setT { openD (L.take k) with fs := (fdo (fbehind (L.take k)) r.call).2 } j r := by
 rw [take_next h];exact openD_append _ _ j hj hc
theorem chestD_append (L : List Record) (r : Record) (j : Nat) (hj : j < 3) (hc : r.client = j) : chestD (L ++ [r]) = StoreD.setT { chestD L with fs := (fdo (fbehind L) r.call).2, log := logBytes L ++ recBytes r } j r := by
 unfold chestD;rw [fbehind_append, lastRec_append, lastRec_append, lastRec_append, hc, logBytes_append, logBytes_one];match j, hj with
 | 0, _ => rfl
 | 1, _ => rfl
 | 2, _ => rfl
theorem rec_client {r : Record} (h : RecOk r) : ∃ j : Nat, j < 3 /\ r.client = j := by
 obtain ⟨h1, h2⟩ := h.client;exact ⟨r.client.toNat, by omega, by omega⟩
@[go_sem] theorem eqlnil_bytes (a : Option Addr) (n c : Nat) (w : World) : (binOp .eql 40 (.slice a n c) (.slice none 0 0)).run Tryz.prog w = .ok (.bool a.isNone) w := Lib.run_eql_slice_nil w 40 5 a n c 0 0 Tryz.underlying40
theorem Reads.none_nil {α : Type} [Lies α] {w : World} {B : Nat} {l : List α} (h : Reads w B none l) : l = [] := by
 cases l with
 | nil => rfl
 | cons x l =>
   obtain ⟨ad, h1, _⟩ := h 0 x rfl;cases h1
theorem clone_bytes (w : World) (B : Nat) (A : Option Addr) (n c : Nat) (l : List UInt8) (h : BytesIn B w A n c l) (hl : l.length <= 100000) :
 Calls Tryz.prog 141 #[.slice A n c] w (NewList w 5 l) := by
 obtain ⟨rfl, hcap, hmax, hr, hB⟩ := h;rcases A with _ | ad
 ·have h0 := hr.none_nil;subst h0;go_enter Tryz.func141, Tryz.ntmps141
  go_wp2
  go_ret
  exact ⟨none, 0, rfl, Owns.nil _ _, Touch.refl _ _, fun k hk => by simp [Value.ownBlock] at hk⟩
 ·have HR := lh hr;have HB := lh hB;clear hr hcap hmax hB;go_enter Tryz.func141, Tryz.ntmps141
  go_wp2_with (at_builtin; refine wpList_append_own' (by rfl) (.tmp 5) (.tmp 6) 40 (by rfl) elemByte Tryz.underlying40 (v := .slice (some ⟨w.heap.size, 0, none⟩) 0 0) (l := []) (by rfl) (own_empty (heap_alloc_new _ _)) l (by rfl) l.length (by simp) (by rfl) (HR.out.below fun k hk => Below.heap_alloc _ _ _ (Nat.lt_of_lt_of_le hk HB.out)) (by simp; omega) ?_
               intro A1 c1 w1 hown1 hgrow1 hat1)
  go_ret
  simp only [List.nil_append] at hown1;exact ⟨A1, c1, rfl, hown1, ((Touch.refl _ w).alloc _).grown hgrow1 (fun k hk => by simp [Value.ownBlock] at hk; omega), fun k hk => by rcases hat1 with h1 | h1 <;> rw [h1] at hk <;> simp [Value.ownBlock] at hk <;> omega⟩
theorem Has.store {W w : World} {gs gf : Nat} {u : Value} {x : StoreD} (h : Has (SR gs gf) W w ((x.cells gf u, x.fs), (u, x.log))) : NewStore W x gs w := by
 obtain ⟨F, hF, hn⟩ := h.ex;exact ⟨h.ext, F, ⟨gf, u, hF⟩, hn⟩
theorem store_begin (w : World) : Has (SR (w.heap.size + 1) w.heap.size) w ((w.alloc (.cells #[.slice none 0 0] 144)).alloc (.cells ((chestD []).cells w.heap.size (.slice none 0 0)) 115)) (((chestD []).cells w.heap.size (.slice none 0 0), (chestD []).fs), (.slice none 0 0, (chestD []).log)) := by
 have h1 := (files_begin (Has.none w)).right;have h2 := (h1.box ((chestD []).cells w.heap.size (.slice none 0 0)) 115).swap;rw [World.size_alloc] at h2;exact h2.newList (Touch.refl _ _) (Owns.nil _ _) (fun k hk => by simp [Value.ownBlock] at hk)
theorem store_new (w : World) : Calls Tryz.prog 19 #[] w fun e w' => e = .returned (.pointer (some ⟨w.heap.size + 1, 0, none⟩)) /\ NewStore w (chestD []) (w.heap.size + 1) w' /\ w' = (w.alloc (.cells #[.slice none 0 0] 144)).alloc (.cells ((chestD []).cells w.heap.size (.slice none 0 0)) 115) := by
 go_enter Tryz.func19, Tryz.ntmps19
 go_wp2_with (go_at_call 46; refine (files_new _).mono ?_; rintro e w' ⟨rfl, rfl⟩)
 go_ret
 exact ⟨by simp, (store_begin w).store, rfl⟩
structure StoreAt (w : World) (gs gf : Nat) (u : Value) (x : StoreD) : Prop where
 cell : w.heap[gs]? = some (.cells (x.cells gf u) 115 (0, 0))
 own : Owns w 5 u x.log
theorem store_log (w : World) (gs gf : Nat) (u : Value) (x : StoreD) (h : StoreAt w gs gf u x) (hl : x.log.length <= 100000) :
 Calls Tryz.prog 100 #[.pointer (some ⟨gs, 0, none⟩)] w (NewList w 5 x.log) := by
 obtain ⟨A, c, rfl, _⟩ := h.own.form;have hc := cell_of h.cell 1;rw [StoreD.get1] at hc;have HO := lh h.own;clear h;go_enter Tryz.func100, Tryz.ntmps100
 go_wp2_with (go_at_call 141; refine (clone_bytes w _ A _ c x.log HO.out.bytesIn hl).mono ?_; rintro e w' ⟨A1, c1, rfl, ho, he, hf⟩)
 go_ret
 exact ⟨A1, c1, rfl, ho, he, hf⟩
theorem Has.both {X Y : Type} {S : Rep Y} {R : Rep X} {W w w' : World} {y : Y} {x : X} (h : Has S W w y) (h2 : Has R w w' x) : Has (S.and R) W w' (y, x) := by
 obtain ⟨F, hF, hf⟩ := h2.ex;exact h.beside h2.ext hF hf
theorem drawer_start (w : World) : Has (repHolds (w.heap.size + 1) 140 138) w ((w.alloc (.cells #[] 138)).alloc (.cells #[.slice (some ⟨w.heap.size, 0, none⟩) 0 0] 140)) ([] : List FileD) := by
 have h : Has (repNone.and (repHolds (w.heap.size + 1) 140 138)) w ((w.alloc (.cells #[] 138)).alloc (.cells #[.slice (some ⟨w.heap.size, 0, none⟩) 0 0] 140)) ((), ([] : List FileD)) := by
  refine (Has.none w).beside (G := foot (w.heap.size + 1) (.slice (some ⟨w.heap.size, 0, none⟩) 0 0)) (((Touch.refl _ w).alloc _).alloc _) ⟨_, fun _ => Iff.rfl, ⟨?_, ?_⟩⟩ (fun k hk => ?_)
  ·exact heap_alloc_at _ _ _ (by simp)
  ·exact own_empty ((Below.heap_alloc _ _ _ (by simp)).trans (heap_alloc_new _ _))
  ·rcases hk with rfl | hk
   ·omega
   ·simp [Value.ownBlock] at hk; omega
 exact h.right
theorem behind_dok (L : List Record) : DOk (dbehind L) := (behind_srt L).dok (fbehind_ok L)
def BehRel (w : World) (gd : Nat) (L : List Record) (i : Value) (wr : World) : Prop :=
 ∃ k : Nat, i = .int .i64 k /\ k <= L.length /\ Has (repHolds gd 140 138) w wr (dbehind (L.take k))
def BehPost (w : World) (L : List Record) (e : Ending) (w' : World) : Prop :=
 ∃ gd, e = .returned (.pointer (some ⟨gd, 0, none⟩)) /\ Has (repHolds gd 140 138) w w' (dbehind L)
theorem ref_behind (w : World) (B : Nat) (A : Option Addr) (n c : Nat) (L : List Record) (hr : Reads w B A L) (hB : B <= w.heap.size) (hn : n = L.length) (hs : ∀ r ∈ L, StrCall r.call) (hl : L.length <= 100000) :
 Calls Tryz.prog 71 #[.slice A n c] w (BehPost w L) := by
 subst hn;have HR := lh hr;have HS := lh hs;have HB := lh hB;clear hr hs hB;go_enter Tryz.func71, Tryz.ntmps71
 go_wp2_with fail
 have H0 := lh (drawer_start w);generalize (w.alloc (.cells #[] 138)).alloc (.cells #[.slice (some ⟨w.heap.size, 0, none⟩) 0 0] 140) = w1 at H0 ⊢;generalize w.heap.size + 1 = gd at H0 ⊢;go_loopw [4] (fun i wr => BehRel w gd L i wr) (fun i _ => L.length - (intOf i).toNat)
 case atStart => exact ⟨0, rfl, Nat.zero_le _, H0.out⟩
 case round =>
  clear H0;obtain ⟨k, rfl, hk, hz⟩ := hrel;have HZ := lh hz;clear hz;by_cases hlt : k < L.length
  ·obtain ⟨r, hx⟩ : ∃ r, L[k]? = some r := ⟨L[k], by simp [hlt]⟩
   obtain ⟨ad, rfl, hadb, hat⟩ := HR.out _ r hx;have hadk : (ad.add (k * 8)).block = ad.block := by unfold Addr.add; split <;> rfl
   replace hat : At w (ad.add (k * 8)) r := hat
   have h1 : At wr (ad.add (k * 8)) r := hat.of_same (HZ.out.ext.block _ (by rw [hadk]; exact Nat.lt_of_lt_of_le hadb HB.out) id);have h2 := objPart_at h1 r.call 2 r.part_call;replace h2 : objPart ((ad.add (k * 8)).off + 2) 4 (wr.heap[(ad.add (k * 8)).block]?) = some r.call.cells := h2;have HXK := lh hx;clear hx hat h1 hadk
   go_wp2_with (go_at_call 117
                obtain ⟨F, hF, hm⟩ := HZ.out.one;refine (drawer_do _ gd F (dbehind (L.take k)) r.call hF (behind_dok _) (HS.out r (List.mem_of_getElem? HXK.out))).mono ?_;rintro e w5 ⟨rfl, hq⟩;rw [<- dbehind_take HXK.out] at hq;have H5 := lh (hm _ _ hq);clear hF hm hq)
   go_roundw
   case rel => exact ⟨k + 1, by go_num, by omega, H5.out⟩
   case measure => simp [intOf]; omega
  ·obtain rfl : k = L.length := by omega
   have H5 := HZ.out;rw [List.take_length] at H5;go_wp2
   go_ret
   exact ⟨gd, rfl, H5⟩
def CBytesRel (w : World) (L : List Record) (out i : Value) (wr : World) : Prop :=
 ∃ (k : Nat) (A : Option Addr) (c : Nat), i = .int .i64 k /\ k <= L.length /\ out = .slice A (logBytes (L.take k)).length c /\ Has (repNone.and (repOwn 5)) w wr ((), (.slice A (logBytes (L.take k)).length c, logBytes (L.take k)))
theorem logBytes_take {L : List Record} {k : Nat} {r : Record} (h : L[k]? = some r) : logBytes (L.take (k + 1)) = logBytes (L.take k) ++ recBytes r := by rw [take_next h, logBytes_append, logBytes_one]
theorem logBytes_take_le (L : List Record) (k : Nat) : (logBytes (L.take k)).length <= (logBytes L).length := by
 have h : logBytes L = logBytes (L.take k) ++ logBytes (L.drop k) := by rw [<- logBytes_append, List.take_append_drop]
 rw [h, List.length_append]; omega
section
variable {X Y Z V : Type} {S : Rep Y} {R : Rep X} {O : Rep Z} {U : Rep V} {W w : World} {y : Y} {x : X} {z : Z} {u : V} {b : Nat} {T : TypeId} {cs : Array Value}
theorem Has.cellB (h : Has (repBlock b T) W w cs) : w.heap[b]? = some (.cells cs T (0, 0)) := by
 obtain ⟨F, hF, _⟩ := h.ex;exact hF.2
theorem Has.filesK (h : Has ((S.and (((repBlock b T).and R).and U)).and O) W w ((y, ((cs, x), u)), z)) : ∃ F, R.on w F x /\ ∀ x' w', Moved R w F x' w' -> Has ((S.and (((repBlock b T).and R).and U)).and O) W w' ((y, ((cs, x'), u)), z) := by
 obtain ⟨H, hH, hm⟩ := h.fs;obtain ⟨F', hF', hm'⟩ := (Rep.stays hH).p2;exact ⟨F', hF', fun x' w' m => hm _ _ (hm' _ _ m)⟩
theorem Has.turnK {w' : World} {cs' : Array Value} (h : Has ((S.and (((repBlock b T).and R).and U)).and O) W w ((y, ((cs, x), u)), z)) (ht : Touch (fun k => k = b) w w') (hc : w'.heap[b]? = some (.cells cs' T (0, 0))) :
 Has ((S.and (((repBlock b T).and R).and U)).and O) W w' ((y, ((cs', x), u)), z) := by
 obtain ⟨H, hH, hm⟩ := h.fs;exact hm _ _ ((Rep.stays hH).turn ht hc)
theorem Has.turn1 {w' : World} {cs' : Array Value} (h : Has (((repBlock b T).and R).and U) W w ((cs, x), u)) (ht : Touch (fun k => k = b) w w') (hc : w'.heap[b]? = some (.cells cs' T (0, 0))) :
 Has (((repBlock b T).and R).and U) W w' ((cs', x), u) := by
 obtain ⟨H, hH, hm⟩ := h.one;exact hm _ _ ((Rep.stays hH).turn ht hc)
theorem Has.apart {q : Nat} {Q : TypeId} {ds : Array Value} (h : Has ((S.and (((repBlock b T).and R).and U)).and (repBlock q Q)) W w ((y, ((cs, x), u)), ds)) : q ≠ b := by
 intro e;subst e;obtain ⟨H, ⟨F, G, hF, hG, hd, _⟩, _⟩ := h.ex;obtain ⟨F1, F2, _, h2, _, h4⟩ := hF;obtain ⟨F3, F4, h5, _, _, h6⟩ := h2;obtain ⟨F5, F6, h7, _, _, h8⟩ := h5;exact hd q ((h4 q).2 (.inr ((h6 q).2 (.inl ((h8 q).2 (.inl ((h7.1 q).2 rfl))))))) ((hG.1 q).2 rfl)
end
@[go_sem] theorem SVo_store0 (P : Program) (ty : TypeId) (b gf : Nat) (v : Value) (x : StoreD) (r : Record) (w : World) (t : TypeId) : SVo P ty 8 b 2 r.cells w (some (.cells (x.cells gf v) t (0, 0))) = .ok () (w.setRow b (StoreD.cells { x with t0 := r } gf v)) := by
  rw [SVo_cells P ty 8 b 2 r.cells (x.cells gf v) w t (by rw [StoreD.size_cells]; decide), StoreD.splice0]
@[go_sem] theorem objPart_store0 (gf : Nat) (v : Value) (x : StoreD) (t : TypeId) (fr : Nat × Nat) : objPart 2 8 (some (.cells (x.cells gf v) t fr)) = some x.t0.cells := by
  rw [objPart_cells 2 8 (x.cells gf v) t fr (by rw [StoreD.size_cells]; decide)];exact congrArg some (x.ext0 gf v)
@[go_sem] theorem SVo_store1 (P : Program) (ty : TypeId) (b gf : Nat) (v : Value) (x : StoreD) (r : Record) (w : World) (t : TypeId) : SVo P ty 8 b 10 r.cells w (some (.cells (x.cells gf v) t (0, 0))) = .ok () (w.setRow b (StoreD.cells { x with t1 := r } gf v)) := by
  rw [SVo_cells P ty 8 b 10 r.cells (x.cells gf v) w t (by rw [StoreD.size_cells]; decide), StoreD.splice1]
@[go_sem] theorem objPart_store1 (gf : Nat) (v : Value) (x : StoreD) (t : TypeId) (fr : Nat × Nat) : objPart 10 8 (some (.cells (x.cells gf v) t fr)) = some x.t1.cells := by
  rw [objPart_cells 10 8 (x.cells gf v) t fr (by rw [StoreD.size_cells]; decide)];exact congrArg some (x.ext1 gf v)
@[go_sem] theorem SVo_store2 (P : Program) (ty : TypeId) (b gf : Nat) (v : Value) (x : StoreD) (r : Record) (w : World) (t : TypeId) : SVo P ty 8 b 18 r.cells w (some (.cells (x.cells gf v) t (0, 0))) = .ok () (w.setRow b (StoreD.cells { x with t2 := r } gf v)) := by
  rw [SVo_cells P ty 8 b 18 r.cells (x.cells gf v) w t (by rw [StoreD.size_cells]; decide), StoreD.splice2]
@[go_sem] theorem objPart_store2 (gf : Nat) (v : Value) (x : StoreD) (t : TypeId) (fr : Nat × Nat) : objPart 18 8 (some (.cells (x.cells gf v) t fr)) = some x.t2.cells := by
  rw [objPart_cells 18 8 (x.cells gf v) t fr (by rw [StoreD.size_cells]; decide)];exact congrArg some (x.ext2 gf v)
theorem setCell_heap {w : World} {g : Nat} {cs : Array Value} {t : TypeId} {fr : Nat × Nat} (h : w.heap[g]? = some (.cells cs t fr)) (o : Nat) (v : Value) : (w.setCell ⟨g, o, none⟩ v).heap[g]? = some (.cells (cs.setIfInBounds o v) t fr) := by
 rw [heap_setCell_map, h];rfl
theorem pre_take {l M rest : List UInt8} (h : l = M ++ rest) : M.length <= l.length /\ M = l.take M.length := by subst h; simp
theorem recAll_pre (l : List UInt8) : (logBytes (recAll l)).length <= l.length /\ logBytes (recAll l) = l.take (logBytes (recAll l)).length := by
 obtain ⟨rest, h, _⟩ := (recAll_is l).rest;exact pre_take h
theorem recok_str {r : Record} (h : RecOk r) : StrCall r.call := by
 obtain ⟨h1, h2, h3⟩ := recCode_size h;exact ⟨by omega, by omega, by omega⟩
abbrev OpenR (gs gf : Nat) : Rep ((Unit × (Value × List Record)) × ((Array Value × List FileD) × (Value × List UInt8))) := (repNone.and (repOwn 112)).and (SR gs gf)
def OpenRel (W : World) (gs gf : Nat) (vL : Value) (L : List Record) (i : Value) (wr : World) : Prop :=
 ∃ k : Nat, i = .int .i64 k /\ k <= L.length /\ Has (OpenR gs gf) W wr (((), (vL, L)), (((openD (L.take k)).cells gf (.slice none 0 0), (openD (L.take k)).fs), (.slice none 0 0, [])))
def OpenPost (w : World) (l : List UInt8) (e : Ending) (w' : World) : Prop :=
 ∃ gs, e = .returned (.tuple #[.pointer (some ⟨gs, 0, none⟩), .int .i64 ((l.length : Int) - (logBytes (recAll l)).length)]) /\ NewStore w (chestD (recAll l)) gs w'
theorem store_open (w : World) (A : Option Addr) (n c : Nat) (l : List UInt8) (h : BytesIn w.heap.size w A n c l) (hl : l.length <= 10000) :
 Calls Tryz.prog 130 #[.slice A n c] w (OpenPost w l) := by
 have HB := lh h;obtain ⟨rfl, hcap, hmax, _, _⟩ := h;unfold maxLen at hmax;go_enter Tryz.func130, Tryz.ntmps130
 go_wp2_with fail
 refine (codec_all w A _ c l HB.out hl).mono ?_;rintro e w1 ⟨A1, c1, rfl, ho1, hx1, hf1⟩;have H1 := lh ((Has.none w).newList hx1 ho1 hf1);have HOK := lh (recAll_is l).ok
 have hLl : (recAll l).length <= 10000 := by
  have h1 := log_len HOK.out;have h2 := (recAll_pre l).1;omega
 have hnl := (recAll_pre l).1;clear ho1 hx1 hf1;have HREC := lh (recAll_pre l).2;generalize hLL : recAll l = L at *;have HLL := lh hLL;clear hLL;go_wp2_with fail
 refine (store_new w1).mono ?_;rintro e w2 ⟨rfl, _, rfl⟩;have H2 := lh (H1.out.both (store_begin w1));clear H1;generalize hww : (w1.alloc (.cells #[.slice none 0 0] 144)).alloc (.cells ((chestD []).cells w1.heap.size (.slice none 0 0)) 115) = w2 at H2 ⊢;clear hww;generalize w1.heap.size + 1 = gs at H2 ⊢;generalize w1.heap.size = gf at H2 ⊢;go_wp2_with fail
 go_loopw [17] (fun i wr => OpenRel w gs gf (.slice A1 L.length c1) L i wr) (fun i _ => L.length - (intOf i).toNat)
 case atStart => exact ⟨0, rfl, Nat.zero_le _, H2.out⟩
 case round =>
  clear H2;obtain ⟨k, rfl, hk, hz⟩ := hrel;have HZ := lh hz;clear hz;by_cases hlt : k < L.length
  ·obtain ⟨r, hx⟩ : ∃ r, L[k]? = some r := ⟨L[k], by simp [hlt]⟩
   obtain ⟨ad, rfl, hadb, hat⟩ := HZ.out.left.right.owns.reads k r hx;have hLV : LV Tryz.prog 112 (ad.add (k * 8)) wr = .ok (.agg r.cells) wr := LV_Record hat
   have HXK := lh hx;have HRO := lh (HOK.out r (List.mem_of_getElem? hx));clear hx hat
   go_wp2_with fail
   have H3 := lh (HZ.out.box r.cells 112);have hbr3 := H3.out.blk;have hbs3 := H3.out.left.right.left.left.cellB;have hcf3 := cell_of hbs3 0;rw [StoreD.get0] at hcf3;have hne' := H3.out.apart;generalize hbq : wr.heap.size = br at H3 hbr3 hne' ⊢;generalize wr.alloc (.cells r.cells 112) = w3 at H3 hbr3 hbs3 hcf3 ⊢;have hne : (br = gs) = False := by simp [hne']
   clear HZ hLV hbq
   go_region_held3 (fun w' => w'.heap[br]? = some (.cells r.cells 112 (0, 0)) /\ w'.cell? ⟨gs, 0, none⟩ = some (.pointer (some ⟨gf, 0, none⟩)))
    (first | exact ⟨hbr5, hcf5⟩ | exact ⟨hbr3, hcf3⟩)
    (first
     | (go_at_call 139
        obtain ⟨F5, hF5, hm5⟩ := (H3.out.step (Touch.drew (Touch.refl _ w3))).filesK;refine (files_do _ gf F5 (openD (L.take k)).fs r.call hF5 (fbehind_ok _) (recok_str HRO.out)).mono ?_;rintro e w5 ⟨rfl, hq5⟩;have H5 := lh (hm5 _ _ hq5);have hbr5 := H5.out.blk;have hbs5 := H5.out.left.right.left.left.cellB;have hcf5 := cell_of hbs5 0;rw [StoreD.get0] at hcf5;clear hF5 hm5 hq5))
   clear hbr3 hbs3 hcf3 hcf5;go_wp2_with fail
   obtain ⟨j, hj, hcl⟩ := rec_client HRO.out;match j, hj with
   | 0, _ =>
     have hcj : w5.cell? ⟨br, 0, none⟩ = some (.int .i64 0) := by rw [cell_of hbr5 0, Record.get0, hcl]; rfl
     go_region_held3 (fun w' => w'.heap[br]? = some (.cells r.cells 112 (0, 0)) /\ w'.cell? ⟨br, 0, none⟩ = some (.int .i64 0))
      (first | exact ⟨(heap_setRow' _ _ _ _ hne).trans hbr5, (cell_setRow_other _ _ _ _ _ hne).trans hcj⟩ | exact ⟨hbr5, hcj⟩) (fail)
     go_wp2
     go_roundw
     case rel =>
      refine ⟨k + 1, by go_num, by omega, ?_⟩;have hon := openD_next HXK.out 0 (by omega) hcl;rw [hon];refine (H5.out.turnK (w' := (w5.setRow gs (((openD (L.take k)).setT 0 r).cells gf (.slice none 0 0))).drew) (((Touch.refl (fun k => k = gs) w5).setRow (.inl rfl) _).drew) ?_).left;exact setRow_heap _ _ _ _ _ _ hbs5
     case measure => simp [intOf]; omega
   | 1, _ =>
     have hcj : w5.cell? ⟨br, 0, none⟩ = some (.int .i64 1) := by rw [cell_of hbr5 0, Record.get0, hcl]; rfl
     go_region_held3 (fun w' => w'.heap[br]? = some (.cells r.cells 112 (0, 0)) /\ w'.cell? ⟨br, 0, none⟩ = some (.int .i64 1))
      (first | exact ⟨(heap_setRow' _ _ _ _ hne).trans hbr5, (cell_setRow_other _ _ _ _ _ hne).trans hcj⟩ | exact ⟨hbr5, hcj⟩) (fail)
     go_wp2
     go_roundw
     case rel =>
      refine ⟨k + 1, by go_num, by omega, ?_⟩;have hon := openD_next HXK.out 1 (by omega) hcl;rw [hon];refine (H5.out.turnK (w' := (w5.setRow gs (((openD (L.take k)).setT 1 r).cells gf (.slice none 0 0))).drew) (((Touch.refl (fun k => k = gs) w5).setRow (.inl rfl) _).drew) ?_).left;exact setRow_heap _ _ _ _ _ _ hbs5
     case measure => simp [intOf]; omega
   | 2, _ =>
     have hcj : w5.cell? ⟨br, 0, none⟩ = some (.int .i64 2) := by rw [cell_of hbr5 0, Record.get0, hcl]; rfl
     go_region_held3 (fun w' => w'.heap[br]? = some (.cells r.cells 112 (0, 0)) /\ w'.cell? ⟨br, 0, none⟩ = some (.int .i64 2))
      (first | exact ⟨(heap_setRow' _ _ _ _ hne).trans hbr5, (cell_setRow_other _ _ _ _ _ hne).trans hcj⟩ | exact ⟨hbr5, hcj⟩) (fail)
     go_wp2
     go_roundw
     case rel =>
      refine ⟨k + 1, by go_num, by omega, ?_⟩;have hon := openD_next HXK.out 2 (by omega) hcl;rw [hon];refine (H5.out.turnK (w' := (w5.setRow gs (((openD (L.take k)).setT 2 r).cells gf (.slice none 0 0))).drew) (((Touch.refl (fun k => k = gs) w5).setRow (.inl rfl) _).drew) ?_).left;exact setRow_heap _ _ _ _ _ _ hbs5
     case measure => simp [intOf]; omega
  ·obtain rfl : k = L.length := by omega
   have H6 := HZ.out;rw [List.take_length] at H6;have HZ6 := lh H6;have hbs6 := H6.right.left.left.cellB;obtain ⟨hlt6, hat6⟩ := aG hbs6
   have hbi : BytesIn wr.heap.size wr A (logBytes L).length c (logBytes L) := by
    refine ⟨rfl, by omega, by unfold maxLen; omega, ?_, Nat.le_refl _⟩;rw [HREC.out];exact (HB.out.reads.ext H6.ext).take _
   have HBI := lh hbi;clear H6 HZ hbi
   go_wp2_with (go_at_call 141
                refine (clone_bytes wr _ A _ c (logBytes L) HBI.out (by omega)).mono ?_;rintro e w7 ⟨A7, c7, rfl, ho7, hx7, hf7⟩;have H7 := lh (HZ6.out.step hx7);have HO7 := lh ho7;have HF7 := lh hf7;have HX7 := lh hx7;have hbs7 := H7.out.right.left.left.cellB;obtain ⟨hlt7, hat7⟩ := aG hbs7;have hcb7 := cell_of hbs7 1;have hfr7 := frozen_of hbs7 1;clear ho7 hx7 hf7)
   have H8 := (HZ6.out.right.left.newList HX7.out HO7.out HF7.out).turn1 (((Touch.refl (fun k => k = gs) _).setCell (a := ⟨gs, 1, none⟩) (.inl rfl) (.slice A7 (logBytes L).length c7))) (setCell_heap hbs7 1 (.slice A7 (logBytes L).length c7));rw [StoreD.set1] at H8;go_ret2
   exact ⟨gs, by rw [HLL.out]; (try rfl), by rw [HLL.out]; exact Has.store (x := chestD L) H8⟩
section
variable {X Y Z : Type} {R : Rep X} {S : Rep Y} {O : Rep Z} {w w' wr : World} {F : Nat -> Prop} {x x' : X} {y y' : Y} {z z' : Z} {b : Nat} {T : TypeId} {cs cs' : Array Value}
theorem Moved.box (h : Moved R w F x wr) (cs : Array Value) (T : TypeId) : Moved (R.and (repBlock wr.heap.size T)) w F (x, cs) (wr.alloc (.cells cs T)) := by
 obtain ⟨F', h1, h2, h3⟩ := h;have hx : Ext wr (wr.alloc (.cells cs T)) := (Touch.refl _ wr).alloc _;refine Moved.after h2 h3 (Rep.beside (G := fun k => k = wr.heap.size) h1 (hx.mono fun _ h => h.elim) (R.ext h1 hx) ⟨fun _ => Iff.rfl, heap_alloc_new _ _⟩ (fun k hk => by rw [hk]; exact Nat.le_refl _))
theorem Moved.left (h : Moved (R.and S) w F (x, y) wr) : Moved R w F x wr := by
 obtain ⟨F', ⟨F1, F2, h1, _, _, hH⟩, h2, h3⟩ := h;exact ⟨F1, h1, h2, fun k hk => h3 k ((hH k).2 (.inl hk))⟩
theorem Moved.blk (h : Moved (R.and (repBlock b T)) w F (x, cs) wr) : wr.heap[b]? = some (.cells cs T (0, 0)) := by
 obtain ⟨F', ⟨F1, F2, _, h1, _, _⟩, _, _⟩ := h;exact h1.2
theorem Moved.fstM (h : Moved (R.and S) w F (x, y) wr) : ∃ F', R.on wr F' x /\ ∀ x' w', Moved R wr F' x' w' -> Moved (R.and S) w F (x', y) w' := by
 obtain ⟨H, hH, hm⟩ := h.opened;obtain ⟨F1, hF1, hm1⟩ := Rep.fst hH;exact ⟨F1, hF1, fun x' w' m => hm _ _ (hm1 _ _ m)⟩
theorem Moved.turnB (h : Moved (R.and (repBlock b T)) w F (x, cs) wr) (ht : Touch (fun k => k = b) wr w') (hc : w'.heap[b]? = some (.cells cs' T (0, 0))) : Moved (R.and (repBlock b T)) w F (x, cs') w' := by
 obtain ⟨H, hH, hm⟩ := h.opened;obtain ⟨F1, hF1, hm1⟩ := Rep.snd hH;exact hm _ _ (hm1 _ _ ⟨F1, ⟨hF1.1, hc⟩, ht.mono fun k hk => .inl ((hF1.1 k).2 hk), Fresh.refl _ _⟩)
theorem Moved.exch (h : Moved ((R.and S).and O) w F ((x, y), z) wr) : Moved ((R.and O).and S) w F ((x, z), y) wr := by
 obtain ⟨F', ⟨F1, G, ⟨F2, F3, h1, h2, h3, h4⟩, hG, hd, hH⟩, ht, hf⟩ := h;refine ⟨F', ⟨fun k => F2 k \/ G k, F3, ⟨F2, G, h1, hG, fun k hk hg => hd k ((h4 k).2 (.inl hk)) hg, fun k => Iff.rfl⟩, h2, fun k hk hf => ?_, fun k => ?_⟩, ht, hf⟩
 ·rcases hk with hk | hk
  ·exact h3 k hk hf
  ·exact hd k ((h4 k).2 (.inr hf)) hk
 ·rw [hH k, h4 k];constructor
  ·rintro ((h | h) | h)
   ·exact .inl (.inl h)
   ·exact .inr h
   ·exact .inl (.inr h)
  ·rintro ((h | h) | h)
   ·exact .inl (.inl h)
   ·exact .inr h
   ·exact .inl (.inr h)
end
@[go_sem ↓] theorem load_Store (v : Value) : Instr.loadAt 115 v = loadS 115 v := rfl
@[go_sem ↓] theorem store_Store (a v : Value) : Instr.storeAt 115 a v = storeS 115 a v := rfl
theorem storeInfo : (Tryz.prog.info? 115).map (·.size) = some 26 := by kernel_rfl
@[go_sem] theorem LVb_Store (b o : Nat) (w : World) : LV Tryz.prog 115 ⟨b, o, none⟩ w = LVp Tryz.prog 115 b o w (objPart o 26 (w.heap[b]?)) := LVp_eq Tryz.underlying115 storeInfo b o w
@[go_sem] theorem objPart_storeW (gf : Nat) (v : Value) (x : StoreD) (t : TypeId) (fr : Nat × Nat) : objPart 0 26 (some (.cells (x.cells gf v) t fr)) = some (x.cells gf v) := by
  rw [objPart_cells 0 26 (x.cells gf v) t fr (by rw [StoreD.size_cells]; decide)];simp [StoreD.cells]
theorem StoreD.one (x : StoreD) (gf : Nat) (A : Option Addr) (n c : Nat) : ∀ u ∈ (x.cells gf (.slice A n c)).toList, u.oneCell' = true := by
 intro u hu;simp only [StoreD.cells, List.mem_cons, List.not_mem_nil, or_false] at hu;rcases hu with rfl | rfl | rfl | rfl | rfl | rfl | rfl | rfl | rfl | rfl | rfl | rfl | rfl | rfl | rfl | rfl | rfl | rfl | rfl | rfl | rfl | rfl | rfl | rfl | rfl | rfl <;> rfl
@[go_sem] theorem run_storeS_Store (x : StoreD) (gf : Nat) (A : Option Addr) (n c b o : Nat) (w : World) : (storeS 115 (.pointer (some ⟨b, o, none⟩)) (.agg (x.cells gf (.slice A n c)))).run Tryz.prog w = SVo Tryz.prog 115 26 b o (x.cells gf (.slice A n c)) w (w.heap[b]?) := SVo_eq storeInfo (StoreD.size_cells _ _ _) (StoreD.one _ _ _ _ _) b o w
@[go_sem] theorem SVo_storeW (P : Program) (ty : TypeId) (b gf gf' : Nat) (v v' : Value) (x y : StoreD) (w : World) (t : TypeId) : SVo P ty 26 b 0 (y.cells gf' v') w (some (.cells (x.cells gf v) t (0, 0))) = .ok () (w.setRow b (y.cells gf' v')) :=
  SVo_whole P ty 26 b _ _ w t (StoreD.size_cells _ _ _) (StoreD.size_cells _ _ _)
theorem Rep.store_gs {w : World} {F : Nat -> Prop} {gs gf : Nat} {x : StoreD} {u : Value} (h : (SR gs gf).on w F ((x.cells gf u, x.fs), (u, x.log))) : F gs := by
 obtain ⟨F1, F2, ⟨F3, F4, h1, _, _, h2⟩, _, _, h3⟩ := h;exact (h3 gs).2 (.inl ((h2 gs).2 (.inl ((h1.1 gs).2 rfl))))
theorem crash_moved {w w1 : World} {F : Nat -> Prop} {gs gf g2 gf2 : Nat} {x y : StoreD} {u u2 : Value} {F2 : Nat -> Prop} {cs : Array Value} (h : (SR gs gf).on w F ((x.cells gf u, x.fs), (u, x.log))) (hx : Ext w w1)
 (h2 : (SR g2 gf2).on w1 F2 ((y.cells gf2 u2, y.fs), (u2, y.log))) (hn : ∀ k, F2 k -> w.heap.size <= k) (hb : w1.heap[gs]? = some (.cells cs 115 (0, 0))) : Moved (repStoreD gs) w F y (w1.setRow gs (y.cells gf2 u2)) := by
 have hgs := Rep.store_gs h;have hlt := (SR gs gf).lt h gs hgs;obtain ⟨F12, G3, ⟨F1, G2, hb1, hf, d12, h12⟩, ho, d3, h3⟩ := h2;have n2 : ∀ k, G2 k -> w.heap.size <= k := fun k hk => hn k ((h3 k).2 (.inl ((h12 k).2 (.inr hk))));have n3 : ∀ k, G3 k -> w.heap.size <= k := fun k hk => hn k ((h3 k).2 (.inr hk));have ht : Touch (fun k => k = gs) w1 (w1.setRow gs (y.cells gf2 u2)) := (Touch.refl (fun k => k = gs) w1).setRow (.inl rfl) _;refine ⟨fun k => (k = gs \/ G2 k) \/ G3 k, ⟨gf2, u2, fun k => k = gs \/ G2 k, G3, ⟨fun k => k = gs, G2, ⟨fun _ => Iff.rfl, setRow_heap _ _ _ _ _ _ hb⟩, Rep.touch hf ht (fun k hk e => ?_), fun k hk hg => ?_, fun _ => Iff.rfl⟩, Rep.touch ho ht (fun k hk e => ?_), fun k hk hg => ?_, fun _ => Iff.rfl⟩, (hx.mono fun _ h => h.elim).then ht fun k e => .inl (e ▸ hgs), fun k hk => ?_⟩
 ·have := n2 k hk; omega
 ·have := n2 k hg; omega
 ·have := n3 k hk; omega
 ·rcases hk with rfl | hk
  ·have := n3 k hg; omega
  ·exact d3 k ((h12 k).2 (.inr hk)) hg
 ·rcases hk with (rfl | hk) | hk
  ·exact .inl hgs
  ·exact .inr (n2 k hk)
  ·exact .inr (n3 k hk)
theorem store_crash (w : World) (gs : Nat) (F : Nat -> Prop) (x : StoreD) (h : (repStoreD gs).on w F x) (hl : x.log.length <= 10000) :
 Calls Tryz.prog 89 #[.pointer (some ⟨gs, 0, none⟩)] w fun e w' => e = .returned (.tuple #[]) /\ Moved (repStoreD gs) w F (chestD (recAll x.log)) w' := by
 obtain ⟨gf, u, hS⟩ := h;have hb := (Rep.stays hS).cell;have ho := (Rep.stays hS).own3;obtain ⟨A, c, rfl, _⟩ := ho.form;have hc1 := cell_of hb 1;rw [StoreD.get1] at hc1;have HS := lh hS;have HB := lh hb;have HO := lh ho;clear hS hb ho;go_enter Tryz.func89, Tryz.ntmps89
 go_wp2_with fail
 refine (store_open w A _ c x.log HO.out.bytesIn hl).mono ?_;rintro e w1 ⟨g2, rfl, hx, F2, ⟨gf2, u2, h2⟩, hn⟩;have hb1 := hx.blk HB.out id;have hb2 := (Rep.stays h2).cell;obtain ⟨A2, c2, rfl, _⟩ := (Rep.stays h2).own3.form;have HM := lh (crash_moved HS.out hx h2 hn hb1);clear hx h2 hn;generalize hy : chestD (recAll x.log) = y at *;have HY := lh hy;clear hy;go_wp2
 first
  | go_end0
  | refine bodyPost_ret (results_none rfl _ _ _) rfl ?_
  | refine bodyPost_end (results_none rfl _ _ _) rfl ?_
 exact ⟨rfl, by rw [HY.out]; exact HM.out⟩
def SCallPost (w : World) (gs : Nat) (F : Nat -> Prop) (r : (Answer × Int × Int) × List Record) (e : Ending) (w' : World) : Prop :=
 ∃ (A : Option Addr) (n c : Nat), e = .returned (.tuple #[.agg r.1.1.cells, .slice A n c, .int .i64 r.1.2.2]) /\ (n : Int) = r.1.2.1 /\ Moved (repStore gs) w F r.2 w'
theorem chestNew_full {L : List Record} {client no : Int} {c : Call} (h : 2000 < (logBytes L).length + (recBytes ⟨client, no, c, Answer.zero⟩).length) : chestNew L client no c = ((Answer.zero, 0, 7), L) := if_pos h
theorem chestNew_room {L : List Record} {client no : Int} {c : Call} (h : ¬ 2000 < (logBytes L).length + (recBytes ⟨client, no, c, Answer.zero⟩).length) :
 chestNew L client no c = (((fdo (fbehind L) c).1, ((recBytes ⟨client, no, c, Answer.zero⟩).length : Int), 0), L ++ [⟨client, no, c, (fdo (fbehind L) c).1⟩]) := if_neg h
theorem enc_ok {r : Record} (h : RecOk r) : encBytes r = recBytes r := if_pos (recCode_of h)
section
variable {X Y Z V : Type} {R : Rep X} {S : Rep Y} {O : Rep Z} {Q : Rep V} {w w' wr : World} {F : Nat -> Prop} {x x' : X} {y : Y} {z : Z} {q : V}
theorem Moved.sr4 (h : Moved (((R.and S).and O).and Q) w F (((x, y), z), q) wr) : ∃ F', R.on wr F' x /\ ∀ x' w', Moved R wr F' x' w' -> Moved (((R.and S).and O).and Q) w F (((x', y), z), q) w' := by
 obtain ⟨Fa, hFa, hma⟩ := h.fstM;obtain ⟨F1, hF1, hm1⟩ := (Rep.stays hFa).p1;exact ⟨F1, hF1, fun x' w' m => hma _ _ (hm1 _ _ m)⟩
end
theorem store_new_call0 (w : World) (gs : Nat) (F : Nat -> Prop) (L : List Record) (no : Int) (c : Call) (h : (repStore gs).on w F L) (hL : LogOk L) (hc : CallOk 0 no c) (hk : 1 <= c.kind /\ c.kind <= 4) :
 Calls Tryz.prog 170 #[.pointer (some ⟨gs, 0, none⟩), .int .i64 0, .int .i64 no, .agg c.cells] w (SCallPost w gs F (chestNew L 0 no c)) := by
 obtain ⟨gf, u, hS⟩ := h;have HZ := lh (zero_ok hc hk);have HNW := lh (new_ok (L := L) hc hk);have HST := lh (recok_str (zero_ok hc hk));have M0 := lh (show Moved (SR gs gf) w F (((chestD L).cells gf u, fbehind L), (u, logBytes L)) w from Rep.stays hS);have hlb := hL.len;have hrb := (recBytes_bounds HZ.out).2;obtain ⟨Au, cu, rfl, _⟩ := M0.out.own3.form;have HCODE := lh (recCode_of HZ.out);clear hS hc hk;go_enter Tryz.func170, Tryz.ntmps170
 go_wp2_with fail
 have hlt : gs < w.heap.size := (aG M0.out.cell).1;have m3 := ((M0.out.box c.cells 66).box Answer.zero.cells 101).box (Record.cells ⟨0, no, c, Answer.zero⟩) 112;simp only [World.size_alloc] at m3;have M3 := lh m3;clear m3;generalize ((w.alloc (.cells c.cells 66)).alloc (.cells Answer.zero.cells 101)).alloc (.cells (Record.cells ⟨0, no, c, Answer.zero⟩) 112) = w3 at M3 ⊢;obtain ⟨bc, hbc⟩ : ∃ bc, w.heap.size = bc := ⟨_, rfl⟩
 obtain ⟨ba, hba⟩ : ∃ ba, w.heap.size + 1 = ba := ⟨_, rfl⟩
 obtain ⟨br, hbr⟩ : ∃ br, w.heap.size + 1 + 1 = br := ⟨_, rfl⟩
 have n1 : (bc = br) = False := by simp; omega
 have n2 : (gs = br) = False := by simp; omega
 have n3 : (gs = ba) = False := by simp; omega
 have n4 : (ba = br) = False := by simp; omega
 have n5 : (br = gs) = False := by simp; omega
 have n6 : (ba = gs) = False := by simp; omega
 have n7 : (br = ba) = False := by simp; omega
 rw [hbr] at M3 ⊢;rw [hba] at M3 ⊢;rw [hbc] at M3 ⊢;clear hbr hba hbc hlt;refine (codec_encode w3 ⟨0, no, c, Answer.zero⟩ HST.out).mono ?_;rintro e w4 ⟨A4, c4, rfl, ho4, hx4, hf4⟩;rw [enc_ok HZ.out] at ho4 ⊢;rw [HCODE.out];have M4 := lh (M3.out.behind hx4);have hbc4 := M4.out.left.left.blk;have hbs4 := M4.out.left.left.left.cell;have hcb4 := cell_of hbs4 1;rw [StoreD.get1] at hcb4;have hbr4 := M4.out.blk;have hba4 := M4.out.left.blk;clear hx4 M3 hf4 ho4;by_cases hfull : 2000 < (logBytes L).length + (recBytes ⟨0, no, c, Answer.zero⟩).length
 ·have hfull' : (2000 : Int) < ((logBytes L).length : Int) + ((recBytes ⟨0, no, c, Answer.zero⟩).length : Int) := by omega
  have hba5 := setRow_heap _ _ _ Answer.zero.cells _ _ hba4;have M5 := lh (M4.out.exch.turnB (w' := w4.setRow ba Answer.zero.cells) ((Touch.refl (fun k => k = ba) w4).setRow (.inl rfl) _) hba5).left.left.left;go_wp2
  refine bodyPost_ret (results_cell_tmp2 rfl _ _ ⟨ba, 0, none⟩ (.agg Answer.zero.cells) rfl (load_block isAnswer hba5)) rfl ?_;unfold SCallPost;rw [chestNew_full hfull];exact ⟨none, 0, 0, rfl, rfl, M5.out.shut.chest rfl⟩
 ·have hroom : ¬ (2000 : Int) < ((logBytes L).length : Int) + ((recBytes ⟨0, no, c, Answer.zero⟩).length : Int) := by omega
  have hcf4 := cell_of hbs4 0;rw [StoreD.get0] at hcf4;go_wp2_with fail
  go_region_held3 (fun w' => w'.cell? ⟨gs, 0, none⟩ = some (.pointer (some ⟨gf, 0, none⟩)) /\ w'.heap[bc]? = some (.cells c.cells 66 (0, 0)))
   (first | exact ⟨(cell_setRow_other _ _ _ _ _ n2).trans hcf5, (heap_setRow' _ _ _ _ n1).trans hbc5⟩ | exact ⟨hcf5, hbc5⟩ | exact ⟨hcf4, hbc4⟩)
   (first
    | (go_at_call 139
       have M4' := (M4.out.behind (Touch.drew (Touch.refl _ w4)))
       obtain ⟨Fa, hFa, hma⟩ := M4'.fstM;obtain ⟨F1, hF1, hm1⟩ := (Rep.stays hFa).p1;obtain ⟨F2, hF2, hm2⟩ := (Rep.stays hF1).p2;refine (files_do _ gf F2 (fbehind L) c hF2 (fbehind_ok _) HST.out).mono ?_;rintro e w5 ⟨rfl, hq5⟩;have M5 := lh (hma _ _ (hm1 _ _ (hm2 _ _ hq5)));have hbs5 := M5.out.left.left.left.cell;have hbr5 := M5.out.blk;have hba5 := M5.out.left.blk;have hcf5 := cell_of hbs5 0;rw [StoreD.get0] at hcf5;have hbc5 := M5.out.left.left.blk;clear hma hm1 hm2 hq5 M4' hFa hF1 hF2))
  have hbr6 := setRow_heap _ _ _ (Record.cells ⟨0, no, c, (fdo (fbehind L) c).1⟩) _ _ hbr5;have M6 := lh (M5.out.turnB (w' := w5.setRow br (Record.cells ⟨0, no, c, (fdo (fbehind L) c).1⟩)) ((Touch.refl (fun k => k = br) w5).setRow (.inl rfl) _) hbr6);generalize w5.setRow br (Record.cells ⟨0, no, c, (fdo (fbehind L) c).1⟩) = w6 at M6 hbr6 ⊢;clear M5 hbs5 hbr5 hba5 hcf5 hbc5 M4 hbs4 hcb4 hbr4 hba4 hbc4 hcf4;go_wp2_with fail
  refine (codec_encode w6 ⟨0, no, c, (fdo (fbehind L) c).1⟩ HST.out).mono ?_;rintro e w7 ⟨A7, c7, rfl, ho7, hx7, hf7⟩;rw [enc_ok HNW.out] at ho7 ⊢;rw [recCode_of HNW.out];have M7 := lh (M6.out.behind hx7);have HO7 := lh ho7;have hbs7 := M7.out.left.left.left.cell;have hcb7 := cell_of hbs7 1;rw [StoreD.get1] at hcb7;have hrb7 := (recBytes_bounds HNW.out).2;have HLEN7 := lh (show (recBytes ⟨0, no, c, (fdo (fbehind L) c).1⟩).length = (recBytes ⟨0, no, c, Answer.zero⟩).length by rw [length_recBytes, length_recBytes]);clear hx7 hf7 ho7 M6 hbr6 hroom
  go_wp2_with (at_builtin; refine wpList_append_own' (by rfl) (.tmp 49) (.tmp 50) 40 (by rfl) elemByte Tryz.underlying40 (v := .slice Au (logBytes L).length cu) (l := logBytes L) (by rfl) M7.out.left.left.left.own3 (recBytes ⟨0, no, c, (fdo (fbehind L) c).1⟩) (by rfl) ((logBytes L).length + (recBytes ⟨0, no, c, (fdo (fbehind L) c).1⟩).length) (by rfl) (by rfl) HO7.out.reads (by omega) ?_
               intro A8 c8 w8 hown8 hgrow8 hat8;obtain ⟨F8, hF8, hm8⟩ := M7.out.sr4;have M8 := lh (hm8 _ _ ((Rep.stays hF8).append (Touch.refl _ w7) hown8 hgrow8 hat8));have hbs8 := M8.out.left.left.left.cell;obtain ⟨hlt8, hat8'⟩ := aG hbs8;have hcb8 := cell_of hbs8 1;have hfr8 := frozen_of hbs8 1;clear hown8 hgrow8 hat8 hF8 hm8)
  generalize hN8 : (logBytes L).length + (recBytes ⟨0, no, c, (fdo (fbehind L) c).1⟩).length = n8 at *;have hbs9 := setCell_heap hbs8 1 (.slice A8 n8 c8);rw [StoreD.set1] at hbs9;obtain ⟨F9, hF9, hm9⟩ := M8.out.sr4;have M9 := lh (hm9 _ _ ((Rep.stays hF9).turn (w' := w8.setCell ⟨gs, 1, none⟩ (.slice A8 n8 c8)) ((Touch.refl (fun k => k = gs) w8).setCell (a := ⟨gs, 1, none⟩) (.inl rfl) _) hbs9));generalize w8.setCell ⟨gs, 1, none⟩ (.slice A8 n8 c8) = w9 at M9 hbs9 ⊢;have hbr9 := M9.out.blk;have hba9 := M9.out.left.blk;clear hF9 hm9 M8 hbs8 hlt8 hat8' hcb8 hfr8 M7 hbs7 hcb7
  go_region_held3 (fun w' => w'.heap[br]? = some (.cells (Record.cells ⟨0, no, c, (fdo (fbehind L) c).1⟩) 112 (0, 0)))
   (first | exact (heap_setRow' _ _ _ _ n5).trans hbr9 | exact hbr9) (fail)
  obtain ⟨F10, hF10, hm10⟩ := M9.out.sr4;have hbs10 := setRow_heap _ _ _ (StoreD.cells { chestD L with t0 := ⟨0, no, c, (fdo (fbehind L) c).1⟩ } gf (.slice A8 n8 c8)) _ _ hbs9;have M10 := lh (hm10 _ _ ((Rep.stays hF10).turn (w' := (w9.setRow gs (StoreD.cells { chestD L with t0 := ⟨0, no, c, (fdo (fbehind L) c).1⟩ } gf (.slice A8 n8 c8))).drew) (((Touch.refl (fun k => k = gs) w9).setRow (.inl rfl) _).drew) hbs10));clear hbs10 hm10 hF10 M9 hbs9 hbr9 hba9;generalize (w9.setRow gs (StoreD.cells { chestD L with t0 := ⟨0, no, c, (fdo (fbehind L) c).1⟩ } gf (.slice A8 n8 c8))).drew = w10 at M10 ⊢;have hbr10 := M10.out.blk;have hba10 := M10.out.left.blk;have hba11 := setRow_heap _ _ _ (fdo (fbehind L) c).1.cells _ _ hba10;have M11 := lh (M10.out.exch.turnB (w' := w10.setRow ba (fdo (fbehind L) c).1.cells) ((Touch.refl (fun k => k = ba) w10).setRow (.inl rfl) _) hba11).left.left.left;go_wp2
  refine bodyPost_ret (results_cell_tmp2 rfl _ _ ⟨ba, 0, none⟩ (.agg (fdo (fbehind L) c).1.cells) rfl (load_block isAnswer hba11)) rfl ?_;unfold SCallPost;rw [chestNew_room hfull];refine ⟨A7, (recBytes ⟨0, no, c, (fdo (fbehind L) c).1⟩).length, c7, rfl, by rw [HLEN7.out], ?_⟩;refine Moved.chest (x := StoreD.setT { chestD L with fs := (fdo (fbehind L) c).2, log := logBytes L ++ recBytes ⟨0, no, c, (fdo (fbehind L) c).1⟩ } 0 ⟨0, no, c, (fdo (fbehind L) c).1⟩) (Moved.shut (gf := gf) (u := .slice A8 n8 c8) ?_) (chestD_append L ⟨0, no, c, (fdo (fbehind L) c).1⟩ 0 (by omega) rfl);exact M11.out
theorem store_new_call1 (w : World) (gs : Nat) (F : Nat -> Prop) (L : List Record) (no : Int) (c : Call) (h : (repStore gs).on w F L) (hL : LogOk L) (hc : CallOk 1 no c) (hk : 1 <= c.kind /\ c.kind <= 4) :
 Calls Tryz.prog 170 #[.pointer (some ⟨gs, 0, none⟩), .int .i64 1, .int .i64 no, .agg c.cells] w (SCallPost w gs F (chestNew L 1 no c)) := by
 obtain ⟨gf, u, hS⟩ := h;have HZ := lh (zero_ok hc hk);have HNW := lh (new_ok (L := L) hc hk);have HST := lh (recok_str (zero_ok hc hk));have M0 := lh (show Moved (SR gs gf) w F (((chestD L).cells gf u, fbehind L), (u, logBytes L)) w from Rep.stays hS);have hlb := hL.len;have hrb := (recBytes_bounds HZ.out).2;obtain ⟨Au, cu, rfl, _⟩ := M0.out.own3.form;have HCODE := lh (recCode_of HZ.out);clear hS hc hk;go_enter Tryz.func170, Tryz.ntmps170
 go_wp2_with fail
 have hlt : gs < w.heap.size := (aG M0.out.cell).1;have m3 := ((M0.out.box c.cells 66).box Answer.zero.cells 101).box (Record.cells ⟨1, no, c, Answer.zero⟩) 112;simp only [World.size_alloc] at m3;have M3 := lh m3;clear m3;generalize ((w.alloc (.cells c.cells 66)).alloc (.cells Answer.zero.cells 101)).alloc (.cells (Record.cells ⟨1, no, c, Answer.zero⟩) 112) = w3 at M3 ⊢;obtain ⟨bc, hbc⟩ : ∃ bc, w.heap.size = bc := ⟨_, rfl⟩
 obtain ⟨ba, hba⟩ : ∃ ba, w.heap.size + 1 = ba := ⟨_, rfl⟩
 obtain ⟨br, hbr⟩ : ∃ br, w.heap.size + 1 + 1 = br := ⟨_, rfl⟩
 have n1 : (bc = br) = False := by simp; omega
 have n2 : (gs = br) = False := by simp; omega
 have n3 : (gs = ba) = False := by simp; omega
 have n4 : (ba = br) = False := by simp; omega
 have n5 : (br = gs) = False := by simp; omega
 have n6 : (ba = gs) = False := by simp; omega
 have n7 : (br = ba) = False := by simp; omega
 rw [hbr] at M3 ⊢;rw [hba] at M3 ⊢;rw [hbc] at M3 ⊢;clear hbr hba hbc hlt;refine (codec_encode w3 ⟨1, no, c, Answer.zero⟩ HST.out).mono ?_;rintro e w4 ⟨A4, c4, rfl, ho4, hx4, hf4⟩;rw [enc_ok HZ.out] at ho4 ⊢;rw [HCODE.out];have M4 := lh (M3.out.behind hx4);have hbc4 := M4.out.left.left.blk;have hbs4 := M4.out.left.left.left.cell;have hcb4 := cell_of hbs4 1;rw [StoreD.get1] at hcb4;have hbr4 := M4.out.blk;have hba4 := M4.out.left.blk;clear hx4 M3 hf4 ho4;by_cases hfull : 2000 < (logBytes L).length + (recBytes ⟨1, no, c, Answer.zero⟩).length
 ·have hfull' : (2000 : Int) < ((logBytes L).length : Int) + ((recBytes ⟨1, no, c, Answer.zero⟩).length : Int) := by omega
  have hba5 := setRow_heap _ _ _ Answer.zero.cells _ _ hba4;have M5 := lh (M4.out.exch.turnB (w' := w4.setRow ba Answer.zero.cells) ((Touch.refl (fun k => k = ba) w4).setRow (.inl rfl) _) hba5).left.left.left;go_wp2
  refine bodyPost_ret (results_cell_tmp2 rfl _ _ ⟨ba, 0, none⟩ (.agg Answer.zero.cells) rfl (load_block isAnswer hba5)) rfl ?_;unfold SCallPost;rw [chestNew_full hfull];exact ⟨none, 0, 0, rfl, rfl, M5.out.shut.chest rfl⟩
 ·have hroom : ¬ (2000 : Int) < ((logBytes L).length : Int) + ((recBytes ⟨1, no, c, Answer.zero⟩).length : Int) := by omega
  have hcf4 := cell_of hbs4 0;rw [StoreD.get0] at hcf4;go_wp2_with fail
  go_region_held3 (fun w' => w'.cell? ⟨gs, 0, none⟩ = some (.pointer (some ⟨gf, 0, none⟩)) /\ w'.heap[bc]? = some (.cells c.cells 66 (0, 0)))
   (first | exact ⟨(cell_setRow_other _ _ _ _ _ n2).trans hcf5, (heap_setRow' _ _ _ _ n1).trans hbc5⟩ | exact ⟨hcf5, hbc5⟩ | exact ⟨hcf4, hbc4⟩)
   (first
    | (go_at_call 139
       have M4' := (M4.out.behind (Touch.drew (Touch.refl _ w4)))
       obtain ⟨Fa, hFa, hma⟩ := M4'.fstM;obtain ⟨F1, hF1, hm1⟩ := (Rep.stays hFa).p1;obtain ⟨F2, hF2, hm2⟩ := (Rep.stays hF1).p2;refine (files_do _ gf F2 (fbehind L) c hF2 (fbehind_ok _) HST.out).mono ?_;rintro e w5 ⟨rfl, hq5⟩;have M5 := lh (hma _ _ (hm1 _ _ (hm2 _ _ hq5)));have hbs5 := M5.out.left.left.left.cell;have hbr5 := M5.out.blk;have hba5 := M5.out.left.blk;have hcf5 := cell_of hbs5 0;rw [StoreD.get0] at hcf5;have hbc5 := M5.out.left.left.blk;clear hma hm1 hm2 hq5 M4' hFa hF1 hF2))
  have hbr6 := setRow_heap _ _ _ (Record.cells ⟨1, no, c, (fdo (fbehind L) c).1⟩) _ _ hbr5;have M6 := lh (M5.out.turnB (w' := w5.setRow br (Record.cells ⟨1, no, c, (fdo (fbehind L) c).1⟩)) ((Touch.refl (fun k => k = br) w5).setRow (.inl rfl) _) hbr6);generalize w5.setRow br (Record.cells ⟨1, no, c, (fdo (fbehind L) c).1⟩) = w6 at M6 hbr6 ⊢;clear M5 hbs5 hbr5 hba5 hcf5 hbc5 M4 hbs4 hcb4 hbr4 hba4 hbc4 hcf4;go_wp2_with fail
  refine (codec_encode w6 ⟨1, no, c, (fdo (fbehind L) c).1⟩ HST.out).mono ?_;rintro e w7 ⟨A7, c7, rfl, ho7, hx7, hf7⟩;rw [enc_ok HNW.out] at ho7 ⊢;rw [recCode_of HNW.out];have M7 := lh (M6.out.behind hx7);have HO7 := lh ho7;have hbs7 := M7.out.left.left.left.cell;have hcb7 := cell_of hbs7 1;rw [StoreD.get1] at hcb7;have hrb7 := (recBytes_bounds HNW.out).2;have HLEN7 := lh (show (recBytes ⟨1, no, c, (fdo (fbehind L) c).1⟩).length = (recBytes ⟨1, no, c, Answer.zero⟩).length by rw [length_recBytes, length_recBytes]);clear hx7 hf7 ho7 M6 hbr6 hroom
  go_wp2_with (at_builtin; refine wpList_append_own' (by rfl) (.tmp 49) (.tmp 50) 40 (by rfl) elemByte Tryz.underlying40 (v := .slice Au (logBytes L).length cu) (l := logBytes L) (by rfl) M7.out.left.left.left.own3 (recBytes ⟨1, no, c, (fdo (fbehind L) c).1⟩) (by rfl) ((logBytes L).length + (recBytes ⟨1, no, c, (fdo (fbehind L) c).1⟩).length) (by rfl) (by rfl) HO7.out.reads (by omega) ?_
               intro A8 c8 w8 hown8 hgrow8 hat8;obtain ⟨F8, hF8, hm8⟩ := M7.out.sr4;have M8 := lh (hm8 _ _ ((Rep.stays hF8).append (Touch.refl _ w7) hown8 hgrow8 hat8));have hbs8 := M8.out.left.left.left.cell;obtain ⟨hlt8, hat8'⟩ := aG hbs8;have hcb8 := cell_of hbs8 1;have hfr8 := frozen_of hbs8 1;clear hown8 hgrow8 hat8 hF8 hm8)
  generalize hN8 : (logBytes L).length + (recBytes ⟨1, no, c, (fdo (fbehind L) c).1⟩).length = n8 at *;have hbs9 := setCell_heap hbs8 1 (.slice A8 n8 c8);rw [StoreD.set1] at hbs9;obtain ⟨F9, hF9, hm9⟩ := M8.out.sr4;have M9 := lh (hm9 _ _ ((Rep.stays hF9).turn (w' := w8.setCell ⟨gs, 1, none⟩ (.slice A8 n8 c8)) ((Touch.refl (fun k => k = gs) w8).setCell (a := ⟨gs, 1, none⟩) (.inl rfl) _) hbs9));generalize w8.setCell ⟨gs, 1, none⟩ (.slice A8 n8 c8) = w9 at M9 hbs9 ⊢;have hbr9 := M9.out.blk;have hba9 := M9.out.left.blk;clear hF9 hm9 M8 hbs8 hlt8 hat8' hcb8 hfr8 M7 hbs7 hcb7
  go_region_held3 (fun w' => w'.heap[br]? = some (.cells (Record.cells ⟨1, no, c, (fdo (fbehind L) c).1⟩) 112 (0, 0)))
   (first | exact (heap_setRow' _ _ _ _ n5).trans hbr9 | exact hbr9) (fail)
  obtain ⟨F10, hF10, hm10⟩ := M9.out.sr4;have hbs10 := setRow_heap _ _ _ (StoreD.cells { chestD L with t1 := ⟨1, no, c, (fdo (fbehind L) c).1⟩ } gf (.slice A8 n8 c8)) _ _ hbs9;have M10 := lh (hm10 _ _ ((Rep.stays hF10).turn (w' := (w9.setRow gs (StoreD.cells { chestD L with t1 := ⟨1, no, c, (fdo (fbehind L) c).1⟩ } gf (.slice A8 n8 c8))).drew) (((Touch.refl (fun k => k = gs) w9).setRow (.inl rfl) _).drew) hbs10));clear hbs10 hm10 hF10 M9 hbs9 hbr9 hba9;generalize (w9.setRow gs (StoreD.cells { chestD L with t1 := ⟨1, no, c, (fdo (fbehind L) c).1⟩ } gf (.slice A8 n8 c8))).drew = w10 at M10 ⊢;have hbr10 := M10.out.blk;have hba10 := M10.out.left.blk;have hba11 := setRow_heap _ _ _ (fdo (fbehind L) c).1.cells _ _ hba10;have M11 := lh (M10.out.exch.turnB (w' := w10.setRow ba (fdo (fbehind L) c).1.cells) ((Touch.refl (fun k => k = ba) w10).setRow (.inl rfl) _) hba11).left.left.left;go_wp2
  refine bodyPost_ret (results_cell_tmp2 rfl _ _ ⟨ba, 0, none⟩ (.agg (fdo (fbehind L) c).1.cells) rfl (load_block isAnswer hba11)) rfl ?_;unfold SCallPost;rw [chestNew_room hfull];refine ⟨A7, (recBytes ⟨1, no, c, (fdo (fbehind L) c).1⟩).length, c7, rfl, by rw [HLEN7.out], ?_⟩;refine Moved.chest (x := StoreD.setT { chestD L with fs := (fdo (fbehind L) c).2, log := logBytes L ++ recBytes ⟨1, no, c, (fdo (fbehind L) c).1⟩ } 1 ⟨1, no, c, (fdo (fbehind L) c).1⟩) (Moved.shut (gf := gf) (u := .slice A8 n8 c8) ?_) (chestD_append L ⟨1, no, c, (fdo (fbehind L) c).1⟩ 1 (by omega) rfl);exact M11.out
theorem store_new_call2 (w : World) (gs : Nat) (F : Nat -> Prop) (L : List Record) (no : Int) (c : Call) (h : (repStore gs).on w F L) (hL : LogOk L) (hc : CallOk 2 no c) (hk : 1 <= c.kind /\ c.kind <= 4) :
 Calls Tryz.prog 170 #[.pointer (some ⟨gs, 0, none⟩), .int .i64 2, .int .i64 no, .agg c.cells] w (SCallPost w gs F (chestNew L 2 no c)) := by
 obtain ⟨gf, u, hS⟩ := h;have HZ := lh (zero_ok hc hk);have HNW := lh (new_ok (L := L) hc hk);have HST := lh (recok_str (zero_ok hc hk));have M0 := lh (show Moved (SR gs gf) w F (((chestD L).cells gf u, fbehind L), (u, logBytes L)) w from Rep.stays hS);have hlb := hL.len;have hrb := (recBytes_bounds HZ.out).2;obtain ⟨Au, cu, rfl, _⟩ := M0.out.own3.form;have HCODE := lh (recCode_of HZ.out);clear hS hc hk;go_enter Tryz.func170, Tryz.ntmps170
 go_wp2_with fail
 have hlt : gs < w.heap.size := (aG M0.out.cell).1;have m3 := ((M0.out.box c.cells 66).box Answer.zero.cells 101).box (Record.cells ⟨2, no, c, Answer.zero⟩) 112;simp only [World.size_alloc] at m3;have M3 := lh m3;clear m3;generalize ((w.alloc (.cells c.cells 66)).alloc (.cells Answer.zero.cells 101)).alloc (.cells (Record.cells ⟨2, no, c, Answer.zero⟩) 112) = w3 at M3 ⊢;obtain ⟨bc, hbc⟩ : ∃ bc, w.heap.size = bc := ⟨_, rfl⟩
 obtain ⟨ba, hba⟩ : ∃ ba, w.heap.size + 1 = ba := ⟨_, rfl⟩
 obtain ⟨br, hbr⟩ : ∃ br, w.heap.size + 1 + 1 = br := ⟨_, rfl⟩
 have n1 : (bc = br) = False := by simp; omega
 have n2 : (gs = br) = False := by simp; omega
 have n3 : (gs = ba) = False := by simp; omega
 have n4 : (ba = br) = False := by simp; omega
 have n5 : (br = gs) = False := by simp; omega
 have n6 : (ba = gs) = False := by simp; omega
 have n7 : (br = ba) = False := by simp; omega
 rw [hbr] at M3 ⊢;rw [hba] at M3 ⊢;rw [hbc] at M3 ⊢;clear hbr hba hbc hlt;refine (codec_encode w3 ⟨2, no, c, Answer.zero⟩ HST.out).mono ?_;rintro e w4 ⟨A4, c4, rfl, ho4, hx4, hf4⟩;rw [enc_ok HZ.out] at ho4 ⊢;rw [HCODE.out];have M4 := lh (M3.out.behind hx4);have hbc4 := M4.out.left.left.blk;have hbs4 := M4.out.left.left.left.cell;have hcb4 := cell_of hbs4 1;rw [StoreD.get1] at hcb4;have hbr4 := M4.out.blk;have hba4 := M4.out.left.blk;clear hx4 M3 hf4 ho4;by_cases hfull : 2000 < (logBytes L).length + (recBytes ⟨2, no, c, Answer.zero⟩).length
 ·have hfull' : (2000 : Int) < ((logBytes L).length : Int) + ((recBytes ⟨2, no, c, Answer.zero⟩).length : Int) := by omega
  have hba5 := setRow_heap _ _ _ Answer.zero.cells _ _ hba4;have M5 := lh (M4.out.exch.turnB (w' := w4.setRow ba Answer.zero.cells) ((Touch.refl (fun k => k = ba) w4).setRow (.inl rfl) _) hba5).left.left.left;go_wp2
  refine bodyPost_ret (results_cell_tmp2 rfl _ _ ⟨ba, 0, none⟩ (.agg Answer.zero.cells) rfl (load_block isAnswer hba5)) rfl ?_;unfold SCallPost;rw [chestNew_full hfull];exact ⟨none, 0, 0, rfl, rfl, M5.out.shut.chest rfl⟩
 ·have hroom : ¬ (2000 : Int) < ((logBytes L).length : Int) + ((recBytes ⟨2, no, c, Answer.zero⟩).length : Int) := by omega
  have hcf4 := cell_of hbs4 0;rw [StoreD.get0] at hcf4;go_wp2_with fail
  go_region_held3 (fun w' => w'.cell? ⟨gs, 0, none⟩ = some (.pointer (some ⟨gf, 0, none⟩)) /\ w'.heap[bc]? = some (.cells c.cells 66 (0, 0)))
   (first | exact ⟨(cell_setRow_other _ _ _ _ _ n2).trans hcf5, (heap_setRow' _ _ _ _ n1).trans hbc5⟩ | exact ⟨hcf5, hbc5⟩ | exact ⟨hcf4, hbc4⟩)
   (first
    | (go_at_call 139
       have M4' := (M4.out.behind (Touch.drew (Touch.refl _ w4)))
       obtain ⟨Fa, hFa, hma⟩ := M4'.fstM;obtain ⟨F1, hF1, hm1⟩ := (Rep.stays hFa).p1;obtain ⟨F2, hF2, hm2⟩ := (Rep.stays hF1).p2;refine (files_do _ gf F2 (fbehind L) c hF2 (fbehind_ok _) HST.out).mono ?_;rintro e w5 ⟨rfl, hq5⟩;have M5 := lh (hma _ _ (hm1 _ _ (hm2 _ _ hq5)));have hbs5 := M5.out.left.left.left.cell;have hbr5 := M5.out.blk;have hba5 := M5.out.left.blk;have hcf5 := cell_of hbs5 0;rw [StoreD.get0] at hcf5;have hbc5 := M5.out.left.left.blk;clear hma hm1 hm2 hq5 M4' hFa hF1 hF2))
  have hbr6 := setRow_heap _ _ _ (Record.cells ⟨2, no, c, (fdo (fbehind L) c).1⟩) _ _ hbr5;have M6 := lh (M5.out.turnB (w' := w5.setRow br (Record.cells ⟨2, no, c, (fdo (fbehind L) c).1⟩)) ((Touch.refl (fun k => k = br) w5).setRow (.inl rfl) _) hbr6);generalize w5.setRow br (Record.cells ⟨2, no, c, (fdo (fbehind L) c).1⟩) = w6 at M6 hbr6 ⊢;clear M5 hbs5 hbr5 hba5 hcf5 hbc5 M4 hbs4 hcb4 hbr4 hba4 hbc4 hcf4;go_wp2_with fail
  refine (codec_encode w6 ⟨2, no, c, (fdo (fbehind L) c).1⟩ HST.out).mono ?_;rintro e w7 ⟨A7, c7, rfl, ho7, hx7, hf7⟩;rw [enc_ok HNW.out] at ho7 ⊢;rw [recCode_of HNW.out];have M7 := lh (M6.out.behind hx7);have HO7 := lh ho7;have hbs7 := M7.out.left.left.left.cell;have hcb7 := cell_of hbs7 1;rw [StoreD.get1] at hcb7;have hrb7 := (recBytes_bounds HNW.out).2;have HLEN7 := lh (show (recBytes ⟨2, no, c, (fdo (fbehind L) c).1⟩).length = (recBytes ⟨2, no, c, Answer.zero⟩).length by rw [length_recBytes, length_recBytes]);clear hx7 hf7 ho7 M6 hbr6 hroom
  go_wp2_with (at_builtin; refine wpList_append_own' (by rfl) (.tmp 49) (.tmp 50) 40 (by rfl) elemByte Tryz.underlying40 (v := .slice Au (logBytes L).length cu) (l := logBytes L) (by rfl) M7.out.left.left.left.own3 (recBytes ⟨2, no, c, (fdo (fbehind L) c).1⟩) (by rfl) ((logBytes L).length + (recBytes ⟨2, no, c, (fdo (fbehind L) c).1⟩).length) (by rfl) (by rfl) HO7.out.reads (by omega) ?_
               intro A8 c8 w8 hown8 hgrow8 hat8;obtain ⟨F8, hF8, hm8⟩ := M7.out.sr4;have M8 := lh (hm8 _ _ ((Rep.stays hF8).append (Touch.refl _ w7) hown8 hgrow8 hat8));have hbs8 := M8.out.left.left.left.cell;obtain ⟨hlt8, hat8'⟩ := aG hbs8;have hcb8 := cell_of hbs8 1;have hfr8 := frozen_of hbs8 1;clear hown8 hgrow8 hat8 hF8 hm8)
  generalize hN8 : (logBytes L).length + (recBytes ⟨2, no, c, (fdo (fbehind L) c).1⟩).length = n8 at *;have hbs9 := setCell_heap hbs8 1 (.slice A8 n8 c8);rw [StoreD.set1] at hbs9;obtain ⟨F9, hF9, hm9⟩ := M8.out.sr4;have M9 := lh (hm9 _ _ ((Rep.stays hF9).turn (w' := w8.setCell ⟨gs, 1, none⟩ (.slice A8 n8 c8)) ((Touch.refl (fun k => k = gs) w8).setCell (a := ⟨gs, 1, none⟩) (.inl rfl) _) hbs9));generalize w8.setCell ⟨gs, 1, none⟩ (.slice A8 n8 c8) = w9 at M9 hbs9 ⊢;have hbr9 := M9.out.blk;have hba9 := M9.out.left.blk;clear hF9 hm9 M8 hbs8 hlt8 hat8' hcb8 hfr8 M7 hbs7 hcb7
  go_region_held3 (fun w' => w'.heap[br]? = some (.cells (Record.cells ⟨2, no, c, (fdo (fbehind L) c).1⟩) 112 (0, 0)))
   (first | exact (heap_setRow' _ _ _ _ n5).trans hbr9 | exact hbr9) (fail)
  obtain ⟨F10, hF10, hm10⟩ := M9.out.sr4;have hbs10 := setRow_heap _ _ _ (StoreD.cells { chestD L with t2 := ⟨2, no, c, (fdo (fbehind L) c).1⟩ } gf (.slice A8 n8 c8)) _ _ hbs9;have M10 := lh (hm10 _ _ ((Rep.stays hF10).turn (w' := (w9.setRow gs (StoreD.cells { chestD L with t2 := ⟨2, no, c, (fdo (fbehind L) c).1⟩ } gf (.slice A8 n8 c8))).drew) (((Touch.refl (fun k => k = gs) w9).setRow (.inl rfl) _).drew) hbs10));clear hbs10 hm10 hF10 M9 hbs9 hbr9 hba9;generalize (w9.setRow gs (StoreD.cells { chestD L with t2 := ⟨2, no, c, (fdo (fbehind L) c).1⟩ } gf (.slice A8 n8 c8))).drew = w10 at M10 ⊢;have hbr10 := M10.out.blk;have hba10 := M10.out.left.blk;have hba11 := setRow_heap _ _ _ (fdo (fbehind L) c).1.cells _ _ hba10;have M11 := lh (M10.out.exch.turnB (w' := w10.setRow ba (fdo (fbehind L) c).1.cells) ((Touch.refl (fun k => k = ba) w10).setRow (.inl rfl) _) hba11).left.left.left;go_wp2
  refine bodyPost_ret (results_cell_tmp2 rfl _ _ ⟨ba, 0, none⟩ (.agg (fdo (fbehind L) c).1.cells) rfl (load_block isAnswer hba11)) rfl ?_;unfold SCallPost;rw [chestNew_room hfull];refine ⟨A7, (recBytes ⟨2, no, c, (fdo (fbehind L) c).1⟩).length, c7, rfl, by rw [HLEN7.out], ?_⟩;refine Moved.chest (x := StoreD.setT { chestD L with fs := (fdo (fbehind L) c).2, log := logBytes L ++ recBytes ⟨2, no, c, (fdo (fbehind L) c).1⟩ } 2 ⟨2, no, c, (fdo (fbehind L) c).1⟩) (Moved.shut (gf := gf) (u := .slice A8 n8 c8) ?_) (chestD_append L ⟨2, no, c, (fdo (fbehind L) c).1⟩ 2 (by omega) rfl);exact M11.out
theorem store_new_call (w : World) (gs : Nat) (F : Nat -> Prop) (L : List Record) (client no : Int) (c : Call) (h : (repStore gs).on w F L) (hL : LogOk L) (hc : CallOk client no c) (hk : 1 <= c.kind /\ c.kind <= 4) :
 Calls Tryz.prog 170 #[.pointer (some ⟨gs, 0, none⟩), .int .i64 client, .int .i64 no, .agg c.cells] w (SCallPost w gs F (chestNew L client no c)) := by
 have h1 := hc.client;obtain rfl | rfl | rfl : client = 0 \/ client = 1 \/ client = 2 := by omega
 ·exact store_new_call0 w gs F L no c h hL hc hk
 ·exact store_new_call1 w gs F L no c h hL hc hk
 ·exact store_new_call2 w gs F L no c h hL hc hk
theorem chestCall_range {L : List Record} {client no : Int} {c : Call} (h : client < 0 \/ 3 <= client \/ no < 1 \/ 200 < no) : chestCall L client no c = ((Answer.zero, 0, 9), L) := if_pos h
theorem chestCall_check {L : List Record} {client no : Int} {c : Call} (h : ¬ (client < 0 \/ 3 <= client \/ no < 1 \/ 200 < no)) (hc : callCode c ≠ 0) : chestCall L client no c = ((Answer.zero, 0, callCode c), L) := by
 unfold chestCall; rw [if_neg h, if_pos hc]
theorem chestCall_ask {L : List Record} {client no : Int} {c : Call} (h : ¬ (client < 0 \/ 3 <= client \/ no < 1 \/ 200 < no)) (hc : callCode c = 0) (hk : ¬ (1 <= c.kind /\ c.kind <= 4)) : chestCall L client no c = (((fdo (fbehind L) c).1, 0, 0), L) := by
 unfold chestCall; rw [if_neg h, if_neg (by simp [hc]), if_pos hk]
theorem chestCall_change {L : List Record} {client no : Int} {c : Call} (h : ¬ (client < 0 \/ 3 <= client \/ no < 1 \/ 200 < no)) (hc : callCode c = 0) (hk : 1 <= c.kind /\ c.kind <= 4) :
 chestCall L client no c = match lastOf L client with
 | some x => if no = x.no /\ c = x.call then ((x.answer, 0, 0), L) else if no <= x.no then ((Answer.zero, 0, 10), L) else chestNew L client no c
 | none => chestNew L client no c := by
 unfold chestCall; rw [if_neg h, if_neg (by simp [hc]), if_neg (by simpa using hk)]; rfl
theorem chestCall_last {L : List Record} {client no : Int} {c : Call} (h : ¬ (client < 0 \/ 3 <= client \/ no < 1 \/ 200 < no)) (hc : callCode c = 0) (hk : 1 <= c.kind /\ c.kind <= 4) :
 chestCall L client no c = if no = (lastRec L client).no /\ c = (lastRec L client).call then (((lastRec L client).answer, 0, 0), L) else if no <= (lastRec L client).no then ((Answer.zero, 0, 10), L) else chestNew L client no c := by
 rw [chestCall_change h hc hk];unfold lastRec;cases lastOf L client with
 | some x => rfl
 | none =>
   have h1 : ¬ no <= (Record.zero).no := by show ¬ no <= 0; omega
   have h2 : ¬ (no = (Record.zero).no /\ c = (Record.zero).call) := fun e => h1 (by rw [e.1]; exact Int.le_refl _);show chestNew L client no c = if no = (Record.zero).no /\ c = (Record.zero).call then _ else if no <= (Record.zero).no then _ else _
   rw [if_neg h2, if_neg h1]
theorem store_call_range (w : World) (gs : Nat) (F : Nat -> Prop) (L : List Record) (client no : Int) (c : Call) (h : (repStore gs).on w F L) (hr : client < 0 \/ 3 <= client \/ no < 1 \/ 200 < no) :
 Calls Tryz.prog 154 #[.pointer (some ⟨gs, 0, none⟩), .int .i64 client, .int .i64 no, .agg c.cells] w (SCallPost w gs F ((Answer.zero, 0, 9), L)) := by
 have M0 := lh (Rep.stays h);clear h;by_cases h1 : client < 0
 ·skip
  go_enter Tryz.func154, Tryz.ntmps154
  go_wp2
  refine bodyPost_ret (results_cell_tmp2 rfl _ _ ⟨w.heap.size + 1, 0, none⟩ (.agg Answer.zero.cells) rfl (load_block isAnswer (heap_alloc_at _ _ _ (by simp)))) rfl ?_;exact ⟨none, 0, 0, rfl, rfl, M0.out.behind (((Touch.refl _ w).alloc _).alloc _)⟩
 by_cases h2 : 3 <= client
 ·skip
  go_enter Tryz.func154, Tryz.ntmps154
  go_wp2
  refine bodyPost_ret (results_cell_tmp2 rfl _ _ ⟨w.heap.size + 1, 0, none⟩ (.agg Answer.zero.cells) rfl (load_block isAnswer (heap_alloc_at _ _ _ (by simp)))) rfl ?_;exact ⟨none, 0, 0, rfl, rfl, M0.out.behind (((Touch.refl _ w).alloc _).alloc _)⟩
 by_cases h3 : no < 1
 ·skip
  go_enter Tryz.func154, Tryz.ntmps154
  go_wp2
  refine bodyPost_ret (results_cell_tmp2 rfl _ _ ⟨w.heap.size + 1, 0, none⟩ (.agg Answer.zero.cells) rfl (load_block isAnswer (heap_alloc_at _ _ _ (by simp)))) rfl ?_;exact ⟨none, 0, 0, rfl, rfl, M0.out.behind (((Touch.refl _ w).alloc _).alloc _)⟩
 have h4 : 200 < no := by omega
 go_enter Tryz.func154, Tryz.ntmps154
 go_wp2
 refine bodyPost_ret (results_cell_tmp2 rfl _ _ ⟨w.heap.size + 1, 0, none⟩ (.agg Answer.zero.cells) rfl (load_block isAnswer (heap_alloc_at _ _ _ (by simp)))) rfl ?_;exact ⟨none, 0, 0, rfl, rfl, M0.out.behind (((Touch.refl _ w).alloc _).alloc _)⟩
theorem store_call_check (w : World) (gs : Nat) (F : Nat -> Prop) (L : List Record) (client no : Int) (c : Call) (n : Int) (h : (repStore gs).on w F L) (hr : ¬ (client < 0 \/ 3 <= client \/ no < 1 \/ 200 < no)) (hst : StrCall c) (hc : callCode c = n) (hn : n ≠ 0) :
 Calls Tryz.prog 154 #[.pointer (some ⟨gs, 0, none⟩), .int .i64 client, .int .i64 no, .agg c.cells] w (SCallPost w gs F ((Answer.zero, 0, n), L)) := by
 have hn' : (n != 0) = true := by simp [hn]
 have M0 := lh (Rep.stays h);have h1 : ¬ client < 0 := by omega
 have h2 : ¬ 3 <= client := by omega
 have h3 : ¬ no < 1 := by omega
 have h4 : ¬ 200 < no := by omega
 have HST := lh hst;have HC := lh hc;clear hst hc;go_enter Tryz.func154, Tryz.ntmps154
 go_wp2_with fail
 have m2 := (M0.out.box c.cells 66).box Answer.zero.cells 101;simp only [World.size_alloc] at m2;have M2 := lh m2;clear m2;generalize (w.alloc (.cells c.cells 66)).alloc (.cells Answer.zero.cells 101) = w2 at M2 ⊢;obtain ⟨bc, hbc⟩ : ∃ bc, w.heap.size = bc := ⟨_, rfl⟩
 obtain ⟨ba, hba⟩ : ∃ ba, w.heap.size + 1 = ba := ⟨_, rfl⟩
 have nab : (ba = bc) = False := by simp; omega
 have nba : (bc = ba) = False := by simp; omega
 rw [hba] at M2 ⊢;try rw [hba] at nsa'
 rw [hbc] at M2 ⊢;clear hba hbc;refine (files_check' w2 c n HC.out HST.out).mono ?_;rintro e w3 ⟨rfl, hx3⟩;have M3 := lh (M2.out.behind hx3);have hbc3 := M3.out.left.blk;clear hx3 M2;go_wp2_with fail
 refine (files_check' _ c n HC.out HST.out).mono ?_;rintro e w4 ⟨rfl, hx4⟩;have M4 := lh (M3.out.behind hx4);have hba4 := M4.out.blk;have hba5 := setRow_heap _ _ _ Answer.zero.cells _ _ hba4;have M5 := lh (M4.out.turnB (w' := w4.setRow ba Answer.zero.cells) ((Touch.refl (fun k => k = ba) w4).setRow (.inl rfl) _) hba5).left.left;clear hx4 M3 hbc3;go_wp2
 refine bodyPost_ret (results_cell_tmp2 rfl _ _ ⟨ba, 0, none⟩ (.agg Answer.zero.cells) rfl (load_block isAnswer hba5)) rfl ?_;exact ⟨none, 0, 0, rfl, rfl, M5.out⟩
theorem store_call_ask (w : World) (gs : Nat) (F : Nat -> Prop) (L : List Record) (client no : Int) (c : Call) (h : (repStore gs).on w F L) (hr : ¬ (client < 0 \/ 3 <= client \/ no < 1 \/ 200 < no)) (hst : StrCall c) (hc : callCode c = 0) (hk : ¬ (1 <= c.kind /\ c.kind <= 4)) :
 Calls Tryz.prog 154 #[.pointer (some ⟨gs, 0, none⟩), .int .i64 client, .int .i64 no, .agg c.cells] w (SCallPost w gs F (((fdo (fbehind L) c).1, 0, 0), L)) := by
 obtain ⟨gf, u, hS⟩ := h;have M0 := lh (show Moved (SR gs gf) w F (((chestD L).cells gf u, fbehind L), (u, logBytes L)) w from Rep.stays hS);have HK := lh hk;have HSAME := lh (show (fdo (fbehind L) c).2 = fbehind L from fdo_same (.inr hk));have hgs : gs < w.heap.size := (aG M0.out.cell).1;have nsa' : (gs = w.heap.size + 1) = False := by simp; omega
 clear hS hk;have h1 : ¬ client < 0 := by omega
 have h2 : ¬ 3 <= client := by omega
 have h3 : ¬ no < 1 := by omega
 have h4 : ¬ 200 < no := by omega
 have HST := lh hst;have HC := lh hc;clear hst hc;go_enter Tryz.func154, Tryz.ntmps154
 go_wp2_with fail
 have m2 := (M0.out.box c.cells 66).box Answer.zero.cells 101;simp only [World.size_alloc] at m2;have M2 := lh m2;clear m2;generalize (w.alloc (.cells c.cells 66)).alloc (.cells Answer.zero.cells 101) = w2 at M2 ⊢;obtain ⟨bc, hbc⟩ : ∃ bc, w.heap.size = bc := ⟨_, rfl⟩
 obtain ⟨ba, hba⟩ : ∃ ba, w.heap.size + 1 = ba := ⟨_, rfl⟩
 have nab : (ba = bc) = False := by simp; omega
 have nba : (bc = ba) = False := by simp; omega
 rw [hba] at M2 ⊢;try rw [hba] at nsa'
 rw [hbc] at M2 ⊢;clear hba hbc;have nsa : (gs = ba) = False := nsa';clear nsa' hgs;refine (files_check' w2 c 0 HC.out HST.out).mono ?_;rintro e w3 ⟨rfl, hx3⟩;have M3 := lh (M2.out.behind hx3);have hbc3 := M3.out.left.blk;have hcc3 := cell_of hbc3 0;have hbs3 := M3.out.left.left.cell;have hcf3 := cell_of hbs3 0;rw [StoreD.get0] at hcf3;clear hx3 M2;go_wp2_with (go_at_call 169; refine (files_changes _ c.kind false (by have := HK.out; simp; omega)).mono ?_; rintro e w4 ⟨rfl, rfl⟩)
 go_region_held3 (fun w' => w'.cell? ⟨gs, 0, none⟩ = some (.pointer (some ⟨gf, 0, none⟩)) /\ w'.heap[bc]? = some (.cells c.cells 66 (0, 0)))
  (first | exact ⟨(cell_setRow_other _ _ _ _ _ nsa).trans hcf5, (heap_setRow' _ _ _ _ nba).trans hbc5⟩ | exact ⟨hcf5, hbc5⟩ | exact ⟨hcf3, hbc3⟩)
  (first
   | (go_at_call 139
      obtain ⟨F1, hF1, hm1⟩ := (M3.out.behind (Touch.drew (Touch.refl _ w3))).p1;obtain ⟨F2, hF2, hm2⟩ := (Rep.stays hF1).p2;refine (files_do _ gf F2 (fbehind L) c hF2 (fbehind_ok _) HST.out).mono ?_;rintro e w5 ⟨rfl, hq5⟩;have m5 := hm1 _ _ (hm2 _ _ hq5);rw [HSAME.out] at m5;have M5 := lh m5;have hcf5 := cell_of M5.out.left.left.cell 0;rw [StoreD.get0] at hcf5;have hbc5 := M5.out.left.blk;have hba5 := M5.out.blk;clear hF1 hm1 hF2 hm2 hq5 m5))
 have hba6 := setRow_heap _ _ _ (fdo (fbehind L) c).1.cells _ _ hba5;have M6 := lh (M5.out.turnB (w' := w5.setRow ba (fdo (fbehind L) c).1.cells) ((Touch.refl (fun k => k = ba) w5).setRow (.inl rfl) _) hba6).left.left;go_wp2
 refine bodyPost_ret (results_cell_tmp2 rfl _ _ ⟨ba, 0, none⟩ (.agg (fdo (fbehind L) c).1.cells) rfl (load_block isAnswer hba6)) rfl ?_;exact ⟨none, 0, 0, rfl, rfl, Moved.chest (x := chestD L) (Moved.shut (gf := gf) (u := u) M6.out) rfl⟩
theorem store_call_change0 (w : World) (gs : Nat) (F : Nat -> Prop) (L : List Record) (no : Int) (c : Call) (h : (repStore gs).on w F L) (hL : LogOk L) (hr : ¬ ((0 : Int) < 0 \/ 3 <= (0 : Int) \/ no < 1 \/ 200 < no)) (hst : StrCall c) (hc : callCode c = 0) (hk : 1 <= c.kind /\ c.kind <= 4) :
 Calls Tryz.prog 154 #[.pointer (some ⟨gs, 0, none⟩), .int .i64 0, .int .i64 no, .agg c.cells] w (SCallPost w gs F (chestCall L 0 no c)) := by
 have HCL := lh (chestCall_last (L := L) hr hc hk);have HOK := lh (show CallOk 0 no c from ⟨by decide, by omega, hc⟩);have HL := lh hL;have M0 := lh (Rep.stays h);have HK := lh hk;have h1 : ¬ no < 1 := by omega
 have h2 : ¬ 200 < no := by omega
 have HST := lh hst;have HC := lh hc;clear hst hc h hL hk hr;go_enter Tryz.func154, Tryz.ntmps154
 go_wp2_with fail
 have m2 := (M0.out.box c.cells 66).box Answer.zero.cells 101;simp only [World.size_alloc] at m2;have M2 := lh m2;clear m2;generalize (w.alloc (.cells c.cells 66)).alloc (.cells Answer.zero.cells 101) = w2 at M2 ⊢;generalize w.heap.size + 1 = ba at M2 ⊢;generalize w.heap.size = bc at M2 ⊢;refine (files_check' w2 c 0 HC.out HST.out).mono ?_;rintro e w3 ⟨rfl, hx3⟩;have M3 := lh (M2.out.behind hx3);have hbc3 := M3.out.left.blk;have hcc3 := cell_of hbc3 0;obtain ⟨F3, hF3, _⟩ := M3.out.p1;obtain ⟨gf, u, hS3⟩ := hF3;have hbs3 := (Rep.stays hS3).cell;obtain ⟨X, hX⟩ : ∃ X, lastRec L 0 = X := ⟨_, rfl⟩
 have hX' : (chestD L).t0 = X := hX;rw [hX] at HCL;clear hx3 M2 hX hS3;have hba3 := M3.out.blk;obtain ⟨ltc, _⟩ := aG hbc3;obtain ⟨lta, _⟩ := aG hba3;by_cases e1 : no = X.no
 ·have e1' : (no == X.no) = true := by simp [e1]
  by_cases e2 : c = X.call
  ·have HP := lh (show chestCall L 0 no c = ((X.answer, 0, 0), L) by rw [HCL.out, if_pos ⟨e1, e2⟩]);have e2' : (c = X.call) = True := eq_true e2;clear e1 e2;have hba4 := setRow_heap _ _ _ (X.answer).cells _ _ hba3;have M5 := lh ((M3.out.turnB (w' := w3.setRow ba (X.answer).cells) ((Touch.refl (fun k => k = ba) w3).setRow (.inl rfl) _) hba4).left.left.behind ((Touch.refl _ _).alloc (.cells X.cells 112)))
   have hba5 : ((w3.setRow ba (X.answer).cells).alloc (.cells X.cells 112)).heap[ba]? = some (.cells (X.answer).cells 101 (0, 0)) := by
    rw [heap_alloc_past _ _ _ (by simp; omega)];exact hba4
   go_wp2_with (first
    |
     (go_at_call 169; refine (files_changes _ c.kind true (by have := HK.out; simp; omega)).mono ?_; rintro e w4 ⟨rfl, rfl⟩)
    | fail)
   refine bodyPost_ret (results_cell_tmp2 rfl _ _ ⟨ba, 0, none⟩ (.agg (X.answer).cells) rfl (load_block isAnswer hba5)) rfl ?_;unfold SCallPost;rw [HP.out];exact ⟨none, 0, 0, rfl, rfl, M5.out⟩
  ·have HP := lh (show chestCall L 0 no c = ((Answer.zero, 0, 10), L) by rw [HCL.out, if_neg (fun h => e2 h.2), if_pos (by omega)]);have e2' : (c = X.call) = False := eq_false e2;clear e1 e2;have hba4 := setRow_heap _ _ _ (Answer.zero).cells _ _ hba3;have M5 := lh ((M3.out.turnB (w' := w3.setRow ba (Answer.zero).cells) ((Touch.refl (fun k => k = ba) w3).setRow (.inl rfl) _) hba4).left.left.behind ((Touch.refl _ _).alloc (.cells X.cells 112)))
   have hba5 : ((w3.setRow ba (Answer.zero).cells).alloc (.cells X.cells 112)).heap[ba]? = some (.cells (Answer.zero).cells 101 (0, 0)) := by
    rw [heap_alloc_past _ _ _ (by simp; omega)];exact hba4
   go_wp2_with (first
    |
     (go_at_call 169; refine (files_changes _ c.kind true (by have := HK.out; simp; omega)).mono ?_; rintro e w4 ⟨rfl, rfl⟩)
    | fail)
   refine bodyPost_ret (results_cell_tmp2 rfl _ _ ⟨ba, 0, none⟩ (.agg (Answer.zero).cells) rfl (load_block isAnswer hba5)) rfl ?_;unfold SCallPost;rw [HP.out];exact ⟨none, 0, 0, rfl, rfl, M5.out⟩
 ·have e1' : (no == X.no) = false := by simp [e1]
  by_cases e3 : no < X.no
  ·have HP := lh (show chestCall L 0 no c = ((Answer.zero, 0, 10), L) by rw [HCL.out, if_neg (fun h => e1 h.1), if_pos (by omega)]);clear e1;have hba4 := setRow_heap _ _ _ (Answer.zero).cells _ _ hba3;have M5 := lh ((M3.out.turnB (w' := w3.setRow ba (Answer.zero).cells) ((Touch.refl (fun k => k = ba) w3).setRow (.inl rfl) _) hba4).left.left.behind ((Touch.refl _ _).alloc (.cells X.cells 112)))
   have hba5 : ((w3.setRow ba (Answer.zero).cells).alloc (.cells X.cells 112)).heap[ba]? = some (.cells (Answer.zero).cells 101 (0, 0)) := by
    rw [heap_alloc_past _ _ _ (by simp; omega)];exact hba4
   go_wp2_with (first
    |
     (go_at_call 169; refine (files_changes _ c.kind true (by have := HK.out; simp; omega)).mono ?_; rintro e w4 ⟨rfl, rfl⟩)
    | fail)
   refine bodyPost_ret (results_cell_tmp2 rfl _ _ ⟨ba, 0, none⟩ (.agg (Answer.zero).cells) rfl (load_block isAnswer hba5)) rfl ?_;unfold SCallPost;rw [HP.out];exact ⟨none, 0, 0, rfl, rfl, M5.out⟩
  ·have HP := lh (show chestCall L 0 no c = chestNew L 0 no c by rw [HCL.out, if_neg (fun h => e1 h.1), if_neg (by omega)]);clear e1
   go_wp2_with (first
    |
     (go_at_call 169; refine (files_changes _ c.kind true (by have := HK.out; simp; omega)).mono ?_; rintro e w4 ⟨rfl, rfl⟩)
    | fail)
   have M4 := lh (M3.out.behind ((Touch.refl _ w3).alloc (.cells X.cells 112)));obtain ⟨F4, hF4, hm4⟩ := M4.out.p1;refine (store_new_call _ gs F4 L 0 no c hF4 HL.out HOK.out HK.out).mono ?_;rintro e w5 ⟨A5, n5, c5, rfl, hn5, hq5⟩;have M5 := lh (hm4 _ _ hq5);have HN5 := lh hn5;have hba5 := M5.out.blk;generalize chestNew L 0 no c = R at *;have hba6 := setRow_heap _ _ _ R.1.1.cells _ _ hba5;have M6 := lh (M5.out.turnB (w' := w5.setRow ba R.1.1.cells) ((Touch.refl (fun k => k = ba) w5).setRow (.inl rfl) _) hba6).left.left;clear hF4 hm4 hq5 hn5 M4;go_wp2
   refine bodyPost_ret (results_cell_tmp2 rfl _ _ ⟨ba, 0, none⟩ (.agg R.1.1.cells) rfl (load_block isAnswer hba6)) rfl ?_;unfold SCallPost;rw [HP.out];exact ⟨A5, n5, c5, rfl, HN5.out, M6.out⟩
theorem store_call_change1 (w : World) (gs : Nat) (F : Nat -> Prop) (L : List Record) (no : Int) (c : Call) (h : (repStore gs).on w F L) (hL : LogOk L) (hr : ¬ ((1 : Int) < 0 \/ 3 <= (1 : Int) \/ no < 1 \/ 200 < no)) (hst : StrCall c) (hc : callCode c = 0) (hk : 1 <= c.kind /\ c.kind <= 4) :
 Calls Tryz.prog 154 #[.pointer (some ⟨gs, 0, none⟩), .int .i64 1, .int .i64 no, .agg c.cells] w (SCallPost w gs F (chestCall L 1 no c)) := by
 have HCL := lh (chestCall_last (L := L) hr hc hk);have HOK := lh (show CallOk 1 no c from ⟨by decide, by omega, hc⟩);have HL := lh hL;have M0 := lh (Rep.stays h);have HK := lh hk;have h1 : ¬ no < 1 := by omega
 have h2 : ¬ 200 < no := by omega
 have HST := lh hst;have HC := lh hc;clear hst hc h hL hk hr;go_enter Tryz.func154, Tryz.ntmps154
 go_wp2_with fail
 have m2 := (M0.out.box c.cells 66).box Answer.zero.cells 101;simp only [World.size_alloc] at m2;have M2 := lh m2;clear m2;generalize (w.alloc (.cells c.cells 66)).alloc (.cells Answer.zero.cells 101) = w2 at M2 ⊢;generalize w.heap.size + 1 = ba at M2 ⊢;generalize w.heap.size = bc at M2 ⊢;refine (files_check' w2 c 0 HC.out HST.out).mono ?_;rintro e w3 ⟨rfl, hx3⟩;have M3 := lh (M2.out.behind hx3);have hbc3 := M3.out.left.blk;have hcc3 := cell_of hbc3 0;obtain ⟨F3, hF3, _⟩ := M3.out.p1;obtain ⟨gf, u, hS3⟩ := hF3;have hbs3 := (Rep.stays hS3).cell;obtain ⟨X, hX⟩ : ∃ X, lastRec L 1 = X := ⟨_, rfl⟩
 have hX' : (chestD L).t1 = X := hX;rw [hX] at HCL;clear hx3 M2 hX hS3;have hba3 := M3.out.blk;obtain ⟨ltc, _⟩ := aG hbc3;obtain ⟨lta, _⟩ := aG hba3;by_cases e1 : no = X.no
 ·have e1' : (no == X.no) = true := by simp [e1]
  by_cases e2 : c = X.call
  ·have HP := lh (show chestCall L 1 no c = ((X.answer, 0, 0), L) by rw [HCL.out, if_pos ⟨e1, e2⟩]);have e2' : (c = X.call) = True := eq_true e2;clear e1 e2;have hba4 := setRow_heap _ _ _ (X.answer).cells _ _ hba3;have M5 := lh ((M3.out.turnB (w' := w3.setRow ba (X.answer).cells) ((Touch.refl (fun k => k = ba) w3).setRow (.inl rfl) _) hba4).left.left.behind ((Touch.refl _ _).alloc (.cells X.cells 112)))
   have hba5 : ((w3.setRow ba (X.answer).cells).alloc (.cells X.cells 112)).heap[ba]? = some (.cells (X.answer).cells 101 (0, 0)) := by
    rw [heap_alloc_past _ _ _ (by simp; omega)];exact hba4
   go_wp2_with (first
    |
     (go_at_call 169; refine (files_changes _ c.kind true (by have := HK.out; simp; omega)).mono ?_; rintro e w4 ⟨rfl, rfl⟩)
    | fail)
   refine bodyPost_ret (results_cell_tmp2 rfl _ _ ⟨ba, 0, none⟩ (.agg (X.answer).cells) rfl (load_block isAnswer hba5)) rfl ?_;unfold SCallPost;rw [HP.out];exact ⟨none, 0, 0, rfl, rfl, M5.out⟩
  ·have HP := lh (show chestCall L 1 no c = ((Answer.zero, 0, 10), L) by rw [HCL.out, if_neg (fun h => e2 h.2), if_pos (by omega)]);have e2' : (c = X.call) = False := eq_false e2;clear e1 e2;have hba4 := setRow_heap _ _ _ (Answer.zero).cells _ _ hba3;have M5 := lh ((M3.out.turnB (w' := w3.setRow ba (Answer.zero).cells) ((Touch.refl (fun k => k = ba) w3).setRow (.inl rfl) _) hba4).left.left.behind ((Touch.refl _ _).alloc (.cells X.cells 112)))
   have hba5 : ((w3.setRow ba (Answer.zero).cells).alloc (.cells X.cells 112)).heap[ba]? = some (.cells (Answer.zero).cells 101 (0, 0)) := by
    rw [heap_alloc_past _ _ _ (by simp; omega)];exact hba4
   go_wp2_with (first
    |
     (go_at_call 169; refine (files_changes _ c.kind true (by have := HK.out; simp; omega)).mono ?_; rintro e w4 ⟨rfl, rfl⟩)
    | fail)
   refine bodyPost_ret (results_cell_tmp2 rfl _ _ ⟨ba, 0, none⟩ (.agg (Answer.zero).cells) rfl (load_block isAnswer hba5)) rfl ?_;unfold SCallPost;rw [HP.out];exact ⟨none, 0, 0, rfl, rfl, M5.out⟩
 ·have e1' : (no == X.no) = false := by simp [e1]
  by_cases e3 : no < X.no
  ·have HP := lh (show chestCall L 1 no c = ((Answer.zero, 0, 10), L) by rw [HCL.out, if_neg (fun h => e1 h.1), if_pos (by omega)]);clear e1;have hba4 := setRow_heap _ _ _ (Answer.zero).cells _ _ hba3;have M5 := lh ((M3.out.turnB (w' := w3.setRow ba (Answer.zero).cells) ((Touch.refl (fun k => k = ba) w3).setRow (.inl rfl) _) hba4).left.left.behind ((Touch.refl _ _).alloc (.cells X.cells 112)))
   have hba5 : ((w3.setRow ba (Answer.zero).cells).alloc (.cells X.cells 112)).heap[ba]? = some (.cells (Answer.zero).cells 101 (0, 0)) := by
    rw [heap_alloc_past _ _ _ (by simp; omega)];exact hba4
   go_wp2_with (first
    |
     (go_at_call 169; refine (files_changes _ c.kind true (by have := HK.out; simp; omega)).mono ?_; rintro e w4 ⟨rfl, rfl⟩)
    | fail)
   refine bodyPost_ret (results_cell_tmp2 rfl _ _ ⟨ba, 0, none⟩ (.agg (Answer.zero).cells) rfl (load_block isAnswer hba5)) rfl ?_;unfold SCallPost;rw [HP.out];exact ⟨none, 0, 0, rfl, rfl, M5.out⟩
  ·have HP := lh (show chestCall L 1 no c = chestNew L 1 no c by rw [HCL.out, if_neg (fun h => e1 h.1), if_neg (by omega)]);clear e1
   go_wp2_with (first
    |
     (go_at_call 169; refine (files_changes _ c.kind true (by have := HK.out; simp; omega)).mono ?_; rintro e w4 ⟨rfl, rfl⟩)
    | fail)
   have M4 := lh (M3.out.behind ((Touch.refl _ w3).alloc (.cells X.cells 112)));obtain ⟨F4, hF4, hm4⟩ := M4.out.p1;refine (store_new_call _ gs F4 L 1 no c hF4 HL.out HOK.out HK.out).mono ?_;rintro e w5 ⟨A5, n5, c5, rfl, hn5, hq5⟩;have M5 := lh (hm4 _ _ hq5);have HN5 := lh hn5;have hba5 := M5.out.blk;generalize chestNew L 1 no c = R at *;have hba6 := setRow_heap _ _ _ R.1.1.cells _ _ hba5;have M6 := lh (M5.out.turnB (w' := w5.setRow ba R.1.1.cells) ((Touch.refl (fun k => k = ba) w5).setRow (.inl rfl) _) hba6).left.left;clear hF4 hm4 hq5 hn5 M4;go_wp2
   refine bodyPost_ret (results_cell_tmp2 rfl _ _ ⟨ba, 0, none⟩ (.agg R.1.1.cells) rfl (load_block isAnswer hba6)) rfl ?_;unfold SCallPost;rw [HP.out];exact ⟨A5, n5, c5, rfl, HN5.out, M6.out⟩
theorem store_call_change2 (w : World) (gs : Nat) (F : Nat -> Prop) (L : List Record) (no : Int) (c : Call) (h : (repStore gs).on w F L) (hL : LogOk L) (hr : ¬ ((2 : Int) < 0 \/ 3 <= (2 : Int) \/ no < 1 \/ 200 < no)) (hst : StrCall c) (hc : callCode c = 0) (hk : 1 <= c.kind /\ c.kind <= 4) :
 Calls Tryz.prog 154 #[.pointer (some ⟨gs, 0, none⟩), .int .i64 2, .int .i64 no, .agg c.cells] w (SCallPost w gs F (chestCall L 2 no c)) := by
 have HCL := lh (chestCall_last (L := L) hr hc hk);have HOK := lh (show CallOk 2 no c from ⟨by decide, by omega, hc⟩);have HL := lh hL;have M0 := lh (Rep.stays h);have HK := lh hk;have h1 : ¬ no < 1 := by omega
 have h2 : ¬ 200 < no := by omega
 have HST := lh hst;have HC := lh hc;clear hst hc h hL hk hr;go_enter Tryz.func154, Tryz.ntmps154
 go_wp2_with fail
 have m2 := (M0.out.box c.cells 66).box Answer.zero.cells 101;simp only [World.size_alloc] at m2;have M2 := lh m2;clear m2;generalize (w.alloc (.cells c.cells 66)).alloc (.cells Answer.zero.cells 101) = w2 at M2 ⊢;generalize w.heap.size + 1 = ba at M2 ⊢;generalize w.heap.size = bc at M2 ⊢;refine (files_check' w2 c 0 HC.out HST.out).mono ?_;rintro e w3 ⟨rfl, hx3⟩;have M3 := lh (M2.out.behind hx3);have hbc3 := M3.out.left.blk;have hcc3 := cell_of hbc3 0;obtain ⟨F3, hF3, _⟩ := M3.out.p1;obtain ⟨gf, u, hS3⟩ := hF3;have hbs3 := (Rep.stays hS3).cell;obtain ⟨X, hX⟩ : ∃ X, lastRec L 2 = X := ⟨_, rfl⟩
 have hX' : (chestD L).t2 = X := hX;rw [hX] at HCL;clear hx3 M2 hX hS3;have hba3 := M3.out.blk;obtain ⟨ltc, _⟩ := aG hbc3;obtain ⟨lta, _⟩ := aG hba3;by_cases e1 : no = X.no
 ·have e1' : (no == X.no) = true := by simp [e1]
  by_cases e2 : c = X.call
  ·have HP := lh (show chestCall L 2 no c = ((X.answer, 0, 0), L) by rw [HCL.out, if_pos ⟨e1, e2⟩]);have e2' : (c = X.call) = True := eq_true e2;clear e1 e2;have hba4 := setRow_heap _ _ _ (X.answer).cells _ _ hba3;have M5 := lh ((M3.out.turnB (w' := w3.setRow ba (X.answer).cells) ((Touch.refl (fun k => k = ba) w3).setRow (.inl rfl) _) hba4).left.left.behind ((Touch.refl _ _).alloc (.cells X.cells 112)))
   have hba5 : ((w3.setRow ba (X.answer).cells).alloc (.cells X.cells 112)).heap[ba]? = some (.cells (X.answer).cells 101 (0, 0)) := by
    rw [heap_alloc_past _ _ _ (by simp; omega)];exact hba4
   go_wp2_with (first
    |
     (go_at_call 169; refine (files_changes _ c.kind true (by have := HK.out; simp; omega)).mono ?_; rintro e w4 ⟨rfl, rfl⟩)
    | fail)
   refine bodyPost_ret (results_cell_tmp2 rfl _ _ ⟨ba, 0, none⟩ (.agg (X.answer).cells) rfl (load_block isAnswer hba5)) rfl ?_;unfold SCallPost;rw [HP.out];exact ⟨none, 0, 0, rfl, rfl, M5.out⟩
  ·have HP := lh (show chestCall L 2 no c = ((Answer.zero, 0, 10), L) by rw [HCL.out, if_neg (fun h => e2 h.2), if_pos (by omega)]);have e2' : (c = X.call) = False := eq_false e2;clear e1 e2;have hba4 := setRow_heap _ _ _ (Answer.zero).cells _ _ hba3;have M5 := lh ((M3.out.turnB (w' := w3.setRow ba (Answer.zero).cells) ((Touch.refl (fun k => k = ba) w3).setRow (.inl rfl) _) hba4).left.left.behind ((Touch.refl _ _).alloc (.cells X.cells 112)))
   have hba5 : ((w3.setRow ba (Answer.zero).cells).alloc (.cells X.cells 112)).heap[ba]? = some (.cells (Answer.zero).cells 101 (0, 0)) := by
    rw [heap_alloc_past _ _ _ (by simp; omega)];exact hba4
   go_wp2_with (first
    |
     (go_at_call 169; refine (files_changes _ c.kind true (by have := HK.out; simp; omega)).mono ?_; rintro e w4 ⟨rfl, rfl⟩)
    | fail)
   refine bodyPost_ret (results_cell_tmp2 rfl _ _ ⟨ba, 0, none⟩ (.agg (Answer.zero).cells) rfl (load_block isAnswer hba5)) rfl ?_;unfold SCallPost;rw [HP.out];exact ⟨none, 0, 0, rfl, rfl, M5.out⟩
 ·have e1' : (no == X.no) = false := by simp [e1]
  by_cases e3 : no < X.no
  ·have HP := lh (show chestCall L 2 no c = ((Answer.zero, 0, 10), L) by rw [HCL.out, if_neg (fun h => e1 h.1), if_pos (by omega)]);clear e1;have hba4 := setRow_heap _ _ _ (Answer.zero).cells _ _ hba3;have M5 := lh ((M3.out.turnB (w' := w3.setRow ba (Answer.zero).cells) ((Touch.refl (fun k => k = ba) w3).setRow (.inl rfl) _) hba4).left.left.behind ((Touch.refl _ _).alloc (.cells X.cells 112)))
   have hba5 : ((w3.setRow ba (Answer.zero).cells).alloc (.cells X.cells 112)).heap[ba]? = some (.cells (Answer.zero).cells 101 (0, 0)) := by
    rw [heap_alloc_past _ _ _ (by simp; omega)];exact hba4
   go_wp2_with (first
    |
     (go_at_call 169; refine (files_changes _ c.kind true (by have := HK.out; simp; omega)).mono ?_; rintro e w4 ⟨rfl, rfl⟩)
    | fail)
   refine bodyPost_ret (results_cell_tmp2 rfl _ _ ⟨ba, 0, none⟩ (.agg (Answer.zero).cells) rfl (load_block isAnswer hba5)) rfl ?_;unfold SCallPost;rw [HP.out];exact ⟨none, 0, 0, rfl, rfl, M5.out⟩
  ·have HP := lh (show chestCall L 2 no c = chestNew L 2 no c by rw [HCL.out, if_neg (fun h => e1 h.1), if_neg (by omega)]);clear e1
   go_wp2_with (first
    |
     (go_at_call 169; refine (files_changes _ c.kind true (by have := HK.out; simp; omega)).mono ?_; rintro e w4 ⟨rfl, rfl⟩)
    | fail)
   have M4 := lh (M3.out.behind ((Touch.refl _ w3).alloc (.cells X.cells 112)));obtain ⟨F4, hF4, hm4⟩ := M4.out.p1;refine (store_new_call _ gs F4 L 2 no c hF4 HL.out HOK.out HK.out).mono ?_;rintro e w5 ⟨A5, n5, c5, rfl, hn5, hq5⟩;have M5 := lh (hm4 _ _ hq5);have HN5 := lh hn5;have hba5 := M5.out.blk;generalize chestNew L 2 no c = R at *;have hba6 := setRow_heap _ _ _ R.1.1.cells _ _ hba5;have M6 := lh (M5.out.turnB (w' := w5.setRow ba R.1.1.cells) ((Touch.refl (fun k => k = ba) w5).setRow (.inl rfl) _) hba6).left.left;clear hF4 hm4 hq5 hn5 M4;go_wp2
   refine bodyPost_ret (results_cell_tmp2 rfl _ _ ⟨ba, 0, none⟩ (.agg R.1.1.cells) rfl (load_block isAnswer hba6)) rfl ?_;unfold SCallPost;rw [HP.out];exact ⟨A5, n5, c5, rfl, HN5.out, M6.out⟩
theorem store_call (w : World) (gs : Nat) (F : Nat -> Prop) (L : List Record) (client no : Int) (c : Call) (h : (repStore gs).on w F L) (hL : LogOk L) (hst : StrCall c) :
 Calls Tryz.prog 154 #[.pointer (some ⟨gs, 0, none⟩), .int .i64 client, .int .i64 no, .agg c.cells] w (SCallPost w gs F (chestCall L client no c)) := by
 by_cases hr : client < 0 \/ 3 <= client \/ no < 1 \/ 200 < no
 ·rw [chestCall_range hr];exact store_call_range w gs F L client no c h hr
 by_cases hc : callCode c = 0
 ·by_cases hk : 1 <= c.kind /\ c.kind <= 4
  ·obtain rfl | rfl | rfl : client = 0 \/ client = 1 \/ client = 2 := by omega
   ·exact store_call_change0 w gs F L no c h hL hr hst hc hk
   ·exact store_call_change1 w gs F L no c h hL hr hst hc hk
   ·exact store_call_change2 w gs F L no c h hL hr hst hc hk
  ·rw [chestCall_ask hr hc hk];exact store_call_ask w gs F L client no c h hr hst hc hk
 ·rw [chestCall_check hr hc];exact store_call_check w gs F L client no c _ h hr hst rfl hc
def SPost (w : World) (gs : Nat) (F : Nat -> Prop) (r : (Answer × Int × Int) × List Record) (e : Ending) (w' : World) : Prop :=
 e = .returned (.tuple #[.agg r.1.1.cells, .int .i64 r.1.2.2]) /\ Moved (repStore gs) w F r.2 w'
theorem store_calls (w : World) (gs : Nat) (F : Nat -> Prop) (L : List Record) (client no : Int) (c : Call) (h : (repStore gs).on w F L) (hL : LogOk L) (hst : StrCall c) :
 Calls Tryz.prog 134 #[.pointer (some ⟨gs, 0, none⟩), .int .i64 client, .int .i64 no, .agg c.cells] w (SPost w gs F (chestCall L client no c)) := by
 have M0 := lh (Rep.stays h);have HL := lh hL;have HST := lh hst;clear h hL hst;go_enter Tryz.func134, Tryz.ntmps134
 go_wp2_with fail
 have m2 := (M0.out.behind ((Touch.refl _ w).alloc (.cells c.cells 66))).box Answer.zero.cells 101;simp only [World.size_alloc] at m2;have M2 := lh m2;clear m2;generalize (w.alloc (.cells c.cells 66)).alloc (.cells Answer.zero.cells 101) = w2 at M2 ⊢;generalize w.heap.size + 1 = ba at M2 ⊢;obtain ⟨F2, hF2, hm2⟩ := M2.out.fstM;refine (store_call w2 gs F2 L client no c hF2 HL.out HST.out).mono ?_;rintro e w3 ⟨A3, n3, c3, rfl, _, hq3⟩;have M3 := lh (hm2 _ _ hq3);have HR := lh (show chestCall L client no c = chestCall L client no c from rfl);generalize hR : chestCall L client no c = R at *;have HRR := lh hR;have hba3 := M3.out.blk;obtain ⟨lta, _⟩ := aG hba3;have hba4 := setRow_heap _ _ _ R.1.1.cells _ _ hba3;have M5 := lh ((M3.out.turnB (w' := w3.setRow ba R.1.1.cells) ((Touch.refl (fun k => k = ba) w3).setRow (.inl rfl) _) hba4).left.behind ((Touch.refl _ _).alloc (.cells R.1.1.cells 101)))
 have hba5 : ((w3.setRow ba R.1.1.cells).alloc (.cells R.1.1.cells 101)).heap[ba]? = some (.cells R.1.1.cells 101 (0, 0)) := by
  rw [heap_alloc_past _ _ _ (by simp; omega)];exact hba4
 clear hF2 hm2 hq3 M2 hR HR;go_wp2
 refine bodyPost_ret (results_cell_tmp rfl _ _ ⟨ba, 0, none⟩ (.agg R.1.1.cells) rfl (load_block isAnswer hba5)) rfl ?_;unfold SPost;try rw [HRR.out]
 exact ⟨rfl, M5.out⟩
theorem Owns.upto {α : Type} [Lies α] {w : World} {e : TypeId} {A : Option Addr} {n c : Nat} {l : List α} (h : Owns w e (.slice A n c) l) (k : Nat) (hk : k <= l.length) : Owns w e (.slice A k c) (l.take k) := by
 rcases h.2 with ⟨hv, h0⟩ | ⟨g, cap, cur, hv, hb, hg, hn, hc, hs, ht⟩
 ·have hl : l = [] := List.eq_nil_of_length_eq_zero h0;subst hl;obtain rfl : k = 0 := by simpa using hk
  cases hv;exact Owns.nil _ _
 ·injection hv with e1 e2 e3;subst e1 e3
  exact own_take_drop hg (by rw [List.length_take]; omega) (by omega) hc hs (by
   rw [<- flat_take, <- ht, List.take_take, Nat.min_eq_left (Nat.mul_le_mul hk (Nat.le_refl _))])
theorem Moved.upto {X α : Type} [Lies α] {S : Rep X} {E : TypeId} {w wr : World} {F : Nat -> Prop} {x : X} {A : Option Addr} {n c : Nat} {l : List α} (h : Moved (S.and (repOwn E)) w F (x, (.slice A n c, l)) wr) (k : Nat) (hk : k <= l.length) :
 Moved (S.and (repOwn E)) w F (x, (.slice A k c, l.take k)) wr := by
 obtain ⟨F', ⟨F1, G, h1, hG, hd, hH⟩, ht, hf⟩ := h;refine ⟨F', ⟨F1, G, h1, ⟨fun j => (hG.1 j).trans ?_, hG.2.upto k hk⟩, hd, hH⟩, ht, hf⟩;cases A <;> exact Iff.rfl
theorem tear_log {L : List Record} (hL : LogOk L) (client no : Int) (c : Call) (keep : Int) (n : Nat) (hn : (n : Int) = (chestCall L client no c).1.2.1) (h0 : (chestCall L client no c).1.2.2 = 0) :
 recAll ((logBytes (chestCall L client no c).2).take ((logBytes (chestCall L client no c).2).length - (n - keep.toNat))) = (chestTear L client no c keep).2 := by
 unfold chestTear;have hok := chestCall_ok hL client no c;have hw := chest_way L client no c;generalize chestCall L client no c = r at *;have hall : recAll (logBytes r.2) = r.2 := recAll_log hok.each;by_cases hcut : 0 < r.1.2.1 /\ keep < r.1.2.1
 ·show _ = if r.1.2.2 = 0 /\ 0 < r.1.2.1 /\ keep < r.1.2.1 then L else r.2
  rw [if_pos ⟨h0, hcut⟩];rcases hw with ⟨k, hk, rfl⟩ | ⟨_, _, rfl⟩ | ⟨_, _, x, _, _, _, rfl⟩ | ⟨hc, hk, hl, hs, rfl⟩
  ·exact absurd h0 hk
  ·exact absurd hcut.1 (by show ¬ (0 : Int) < 0; omega)
  ·exact absurd hcut.1 (by show ¬ (0 : Int) < 0; omega)
  ·have hlen := length_new L client no c (fdo (fbehind L) c).1;have hnew := new_ok (L := L) hc hk
   have hnn : n = (recBytes ⟨client, no, c, Answer.zero⟩).length := by
    have : (n : Int) = ((recBytes ⟨client, no, c, Answer.zero⟩).length : Int) := hn;omega
   have hkn : keep < (n : Int) := by rw [hnn]; exact hcut.2
   have hn0 : 0 < n := by have : (0 : Int) < n := by rw [hn]; exact hcut.1
                          omega
   have h2 : (recBytes ⟨client, no, c, (fdo (fbehind L) c).1⟩).length = n := by rw [hnn, length_recBytes, length_recBytes]
   show recAll ((logBytes (L ++ [⟨client, no, c, (fdo (fbehind L) c).1⟩])).take ((logBytes (L ++ [⟨client, no, c, (fdo (fbehind L) c).1⟩])).length - (n - keep.toNat))) = L;rw [show (logBytes (L ++ [⟨client, no, c, (fdo (fbehind L) c).1⟩])).length - (n - keep.toNat) = (logBytes L).length + keep.toNat by rw [hlen, <- hnn]; omega];exact log_torn hL.each hnew keep.toNat (by rw [h2]; omega)
 ·show _ = if r.1.2.2 = 0 /\ 0 < r.1.2.1 /\ keep < r.1.2.1 then L else r.2
  rw [if_neg (fun h => hcut h.2)];have : n - keep.toNat = 0 := by omega
  rw [this, Nat.sub_zero, List.take_length];exact hall
def STPost (w : World) (gs : Nat) (F : Nat -> Prop) (r : Int × List Record) (e : Ending) (w' : World) : Prop :=
 e = .returned (.int .i64 r.1) /\ Moved (repStore gs) w F r.2 w'
theorem store_Tear (w : World) (gs : Nat) (F : Nat -> Prop) (L : List Record) (client no : Int) (c : Call) (keep : Int) (h : (repStore gs).on w F L) (hL : LogOk L) (hst : StrCall c) (hkeep : I64 keep) :
 Calls Tryz.prog 129 #[.pointer (some ⟨gs, 0, none⟩), .int .i64 client, .int .i64 no, .agg c.cells, .int .i64 keep] w (STPost w gs F (chestTear L client no c keep)) := by
 have M0 := lh (Rep.stays h);have HL := lh hL;have HST := lh hst;have hk1 := hkeep.1;have hk2 := hkeep.2;clear h hL hst hkeep;go_enter Tryz.func129, Tryz.ntmps129
 go_wp2_with fail
 have M2 := lh (M0.out.behind ((Touch.refl _ w).alloc (.cells c.cells 66)));generalize w.alloc (.cells c.cells 66) = w2 at M2 ⊢;obtain ⟨F2, hF2, hm2⟩ := M2.out.opened;refine (store_call w2 gs F2 L client no c hF2 HL.out HST.out).mono ?_;rintro e w3 ⟨A3, n3, c3, rfl, hn3, hq3⟩;have M3 := lh (hm2 _ _ hq3);have HN3 := lh hn3;have HOK := lh (chestCall_ok HL.out client no c);clear hF2 hm2 hq3 M2 hn3;by_cases h0 : (chestCall L client no c).1.2.2 = 0
 ·have HT := lh (tear_log HL.out client no c keep n3 HN3.out h0);have HT1 := lh (show (chestTear L client no c keep).1 = 0 from h0);have h0' : ((chestCall L client no c).1.2.2 != 0) = false := by simp [h0]
  have hlog := HOK.out.len
  have hn3' : (n3 : Int) <= 2000 := by
   have hw := chest_way L client no c;have h1 := HN3.out;generalize chestCall L client no c = r at *;rcases hw with ⟨k, hk, rfl⟩ | ⟨_, _, rfl⟩ | ⟨_, _, x, _, _, _, rfl⟩ | ⟨hc, hk, hl, hs, rfl⟩
   ·rw [h1]; show (0 : Int) <= 2000; omega
   ·rw [h1]; show (0 : Int) <= 2000; omega
   ·rw [h1]; show (0 : Int) <= 2000; omega
   ·rw [h1]; show ((recBytes _).length : Int) <= 2000; omega
  have hn4 : n3 <= (logBytes (chestCall L client no c).2).length := by
   have hw := chest_way L client no c;have h1 := HN3.out;generalize chestCall L client no c = r at *;rcases hw with ⟨k, hk, rfl⟩ | ⟨_, _, rfl⟩ | ⟨_, _, x, _, _, _, rfl⟩ | ⟨hc, hk, hl, hs, rfl⟩
   ·have : (n3 : Int) = 0 := h1;omega
   ·have : (n3 : Int) = 0 := h1;omega
   ·have : (n3 : Int) = 0 := h1;omega
   ·have h1 : (n3 : Int) = ((recBytes ⟨client, no, c, Answer.zero⟩).length : Int) := h1;show n3 <= (logBytes (L ++ [_])).length;rw [length_new];omega
  obtain ⟨F3, ⟨gf, u, hS3⟩, hm3⟩ := M3.out.opened;obtain ⟨Au, cu, hu, _⟩ := (Rep.stays hS3).own3.form;generalize (chestCall L client no c).1.1 = a at *;generalize (chestCall L client no c).1.2.2 = code at *;generalize (chestCall L client no c).2 = L' at *;have hu : u = .slice Au (logBytes L').length cu := hu;subst hu;have M3a := lh (Rep.stays hS3);have HM3 := lh hm3;have hbs3 := M3a.out.cell;clear hS3 hm3 M3;have hcut : max ((n3 : Int) - max keep 0) 0 = ((n3 - keep.toNat : Nat) : Int) := by omega
  obtain ⟨m, hm⟩ : ∃ m, (logBytes L').length - (n3 - keep.toNat) = m := ⟨_, rfl⟩
  have hmle : m <= (logBytes L').length := by omega
  have hsub : ((logBytes L').length : Int) - ((n3 - keep.toNat : Nat) : Int) = (m : Int) := by omega
  have hcu : (logBytes L').length <= cu := by
   obtain ⟨A', c', e, h1, _⟩ := M3a.out.own3.form;injection e with e1 e2 e3;rw [e3];exact h1
  have hmcu : (m : Int) <= cu := by omega
  rw [hm] at HT;clear hm;generalize n3 - keep.toNat = k at *;have M4 := lh (M3a.out.behind ((Touch.refl _ w3).alloc (.cells a.cells 101)));have hbs4 := M4.out.cell;obtain ⟨lt4, at4⟩ := aG hbs4;have hcb4 := cell_of hbs4 1;rw [StoreD.get1] at hcb4;have hfr4 := frozen_of hbs4 1;have hbs5 := setCell_heap hbs4 1 (.slice Au m cu);rw [StoreD.set1] at hbs5;have M5 := lh (((M4.out.turn (w' := (w3.alloc (.cells a.cells 101)).setCell ⟨gs, 1, none⟩ (.slice Au m cu)) ((Touch.refl (fun k => k = gs) _).setCell (a := ⟨gs, 1, none⟩) (.inl rfl) _) hbs5).upto m hmle).behind (Touch.drew (Touch.refl _ _)));obtain ⟨F5, hF5, hm5⟩ := (Moved.shut (x := { chestD L' with log := (logBytes L').take m }) (gf := gf) (u := .slice Au m cu) M5.out).opened;have HF5 := lh hF5;have HM5 := lh hm5;clear hF5 hm5 hbs5 M5;go_wp2_with fail
  generalize w3.alloc (.cells a.cells 101) = w4 at M4 HF5 HM5 hbs4 lt4 at4 hcb4 hfr4 ⊢;go_region
  all_goals
   go_wp2_with fail
   refine (store_crash _ gs F5 _ HF5.out (by show ((logBytes L').take m).length <= 10000; rw [List.length_take]; omega)).mono ?_;rintro e w6 ⟨rfl, hq6⟩;have M6 := HM3.out _ _ (HM5.out _ _ hq6);rw [show recAll ({ chestD L' with log := (logBytes L').take m } : StoreD).log = (chestTear L client no c keep).2 from HT.out] at M6;have M7 := lh M6;clear hq6 M6;go_wp2
   go_ret
   exact ⟨by rw [HT1.out]; rfl, M7.out⟩
 ·have HT := lh (show chestTear L client no c keep = ((chestCall L client no c).1.2.2, (chestCall L client no c).2) by unfold chestTear; rw [if_neg (fun h => h0 h.1)]);have h0' : ((chestCall L client no c).1.2.2 != 0) = true := by simp [h0]
  have M4 := lh (M3.out.behind ((Touch.refl _ w3).alloc (.cells (chestCall L client no c).1.1.cells 101)));go_wp2
  go_ret
  unfold STPost;rw [HT.out];exact ⟨rfl, M4.out⟩
theorem store_parts {w : World} {F : Nat -> Prop} {gs : Nat} {x : StoreD} (h : (repStoreD gs).on w F x) : ∃ gf u v, StoreAt w gs gf u x /\ Holds w gf 144 217 v x.fs := by
 obtain ⟨gf, u, hS⟩ := h;obtain ⟨F2, ⟨v, _, hh⟩, _⟩ := (Rep.stays hS).p2;exact ⟨gf, u, v, ⟨(Rep.stays hS).cell, (Rep.stays hS).own3⟩, hh⟩
theorem store_logs (w : World) (gs : Nat) (F : Nat -> Prop) (L : List Record) (h : (repStore gs).on w F L) (hL : LogOk L) :
 Calls Tryz.prog 100 #[.pointer (some ⟨gs, 0, none⟩)] w (NewList w 5 (logBytes L)) := by
 obtain ⟨gf, u, v, hA, _⟩ := store_parts h;exact store_log w gs gf u (chestD L) hA (by have := hL.len; show (logBytes L).length <= 100000; omega)
end Go.Proofs.YtalfbhhldfffkaaGreatDoor
