/- FilesAll: the law's all: every file's name and text. -/
import Derived.Test.YtalfbhhldfffkabFilesBegun
import Derived.Test.YtalfbhhldfffkabFilesLaw
namespace Go.Proofs.Ytalfbhhldfffkab
open Go.RowKit

def allOf (l : List FileD) : List ByteArray := l.flatMap fun f => [f.name, f.text]
theorem allOf_take {l : List FileD} {k : Nat} {f : FileD} (h : l[k]? = some f) : allOf (l.take (k + 1)) = allOf (l.take k) ++ [f.name, f.text] := by
  unfold allOf
  rw [List.take_add_one, h, List.flatMap_append]
  simp
theorem length_allOf (l : List FileD) : (allOf l).length = 2 * l.length := by
  unfold allOf
  induction l with
  | nil => rfl
  | cons f l ih => rw [List.flatMap_cons, List.length_append, ih, List.length_cons]; simp; omega

@[go_sem ↓] theorem run_field_text (x : Answer) (w : World) : (Instr.field 28 (.agg x.cells) 1).run Try.prog w = .ok (.string x.text) w := by
  show (Instr.field 28 (.agg #[.int .i64 x.code, .string x.text]) 1).run Try.prog w = _
  simp [Instr.field, run_underlying Try.underlying28, asAgg, part, Try.isAgg9]
section
variable {X Y Z V : Type} {S : Rep Y} {R : Rep X} {O : Rep Z} {P : Rep V} {W w : World} {y : Y} {x : X} {z : Z} {v : V}
theorem Has.third (h : Has (((S.and R).and O).and P) W w (((y, x), z), v)) : ∃ F, R.on w F x ∧ ∀ x' w', Moved R w F x' w' → Has (((S.and R).and O).and P) W w' (((y, x'), z), v) := by
  obtain ⟨H, hH, hm⟩ := h.fst
  obtain ⟨G, hG, hn⟩ := Rep.fst hH
  obtain ⟨F, hF, hk⟩ := Rep.snd hG
  exact ⟨F, hF, fun x' w' m => hm _ _ (hn _ _ (hk _ _ m))⟩
end
theorem Has.owns {α : Type} [Lies α] {E : TypeId} {W w : World} {v : Value} {l : List α} (h : Has (repOwn E) W w (v, l)) : Owns w E v l := by
  obtain ⟨F, hF, _⟩ := h.ex
  exact hF.2
/-- an append onto an owned list beside all else -/
theorem Has.append {α Y : Type} [Lies α] {S : Rep Y} {E : TypeId} {W w wx w' : World} {y : Y} {v v' : Value} {l l' : List α} (h : Has (S.and (repOwn E)) W w (y, (v, l))) (hx : Ext w wx) (hown : Owns w' E v' l') (hgrow : wx.grownBy w' v.ownBlock)
    (hat : v'.ownBlock = v.ownBlock ∨ v'.ownBlock = some wx.heap.size) : Has (S.and (repOwn E)) W w' (y, (v', l')) := by
  obtain ⟨F, hF, hm⟩ := h.snd
  have e : F = fun k => v.ownBlock = some k := funext fun k => propext (hF.1 k)
  subst e
  exact hm _ _ (Owns.moved hF.2 hx hown hgrow hat)
/-- a new list beside all else -/
theorem Has.newList {α Y : Type} [Lies α] {S : Rep Y} {E : TypeId} {W w w' : World} {y : Y} {v : Value} {l : List α} (h : Has S W w y) (hx : Ext w w') (hown : Owns w' E v l) (hf : ∀ k, v.ownBlock = some k → w.heap.size ≤ k) : Has (S.and (repOwn E)) W w' (y, (v, l)) :=
  h.beside (G := fun k => v.ownBlock = some k) hx ⟨fun _ => Iff.rfl, hown⟩ hf

theorem all_start {Y : Type} {S : Rep Y} {E : TypeId} {W w w' : World} {y : Y} {v : Value} {l : List ByteArray} (h : Has S W w y) (hx : Ext w w') (hown : Owns w' E v l) (hf : ∀ k, v.ownBlock = some k → w.heap.size ≤ k) :
    Has ((S.and (repOwn E)).and (repOwn E)) W w' ((y, (v, l)), (.slice none 0 0, ([] : List ByteArray))) :=
  (h.newList hx hown hf).newList (Touch.refl _ _) (Owns.nil _ _) (fun k hk => by simp [Value.ownBlock] at hk)
theorem names_at {Y : Type} {S : Rep Y} {E : TypeId} {W w : World} {y : Y} {ad : Addr} {n c : Nat} {l : List ByteArray} (h : Has (S.and (repOwn E)) W w (y, (.slice (some ad) n c, l))) {k : Nat} {s : ByteArray} (hs : l[k]? = some s) :
    (ad.add k).block < w.heap.size ∧ w.cell? (ad.add k) = some (.string s) := by
  obtain ⟨ad', he', hb, hat'⟩ := h.right.owns.reads k s hs
  cases he'
  have := hat' 0 (.string s) rfl
  rw [addr_add_add, show k * Lies.size ByteArray + 0 = k from Nat.mul_one k] at this
  exact ⟨by rw [show (ad.add k).block = ad.block by unfold Addr.add; split <;> rfl]; exact hb, this⟩
def FAllRel {Y : Type} (S : Rep Y) (y : Y) (W : World) (g : Nat) (l : List FileD) (v4 : Value) (out i : Value) (wr : World) : Prop :=
  ∃ (k n3 c3 : Nat) (A3 : Option Addr), i = .int .i64 k ∧ k ≤ l.length ∧ n3 = 2 * k ∧ out = .slice A3 n3 c3 ∧
    Has (((S.and (repHolds g 105 112)).and (repOwn 9)).and (repOwn 9)) W wr (((y, l), (v4, l.map (·.name))), (.slice A3 n3 c3, allOf (l.take k)))
def FAllPost {Y : Type} (S : Rep Y) (y : Y) (W : World) (g : Nat) (l : List FileD) (e : Ending) (w' : World) : Prop :=
  ∃ (A c : _), e = .returned (.slice A (2 * l.length) c) ∧ Has ((S.and (repHolds g 105 112)).and (repOwn 9)) W w' ((y, l), (.slice A (2 * l.length) c, allOf l))
set_option maxHeartbeats 1000000 in
set_option maxRecDepth 100000 in
theorem law_all {Y : Type} (S : Rep Y) (y : Y) (W w : World) (g : Nat) (l : List FileD) (h : Has (S.and (repHolds g 105 112)) W w (y, l)) (hok : FOk l) :
    Calls Try.prog 15 #[.pointer (some ⟨g, 0, none⟩)] w (FAllPost S y W g l) := by
  have H := Lib.hid h
  have HOK := Lib.hid hok
  have hl6 := hok.len
  obtain ⟨F, ⟨v, hF, hh⟩, _⟩ := h.snd
  have HH := Lib.hid hh
  clear h hok hF hh
  go_enter Try.func15, Try.ntmps15
  go_wp2_with (first
    | (go_at_call 17
       refine (files_names w g v l HH.out (by omega)).mono ?_
       rintro e w4 ⟨A4, c4, he4, ho4, hx4, hf4⟩
       rw [List.length_map] at he4 ho4 hf4
       subst he4
       have H4 := Lib.hid (all_start H.out hx4 ho4 hf4)
       clear ho4 hx4 hf4))
  go_loopw [3, 5] (fun out i wr => FAllRel S y W g l (.slice A4 l.length c4) out i wr) (fun _ i _ => l.length - (intOf i).toNat)
  case atStart => exact ⟨0, 0, 0, none, rfl, Nat.zero_le _, rfl, rfl, H4.out⟩
  case round =>
    obtain ⟨k, n3, c3, A3, rfl, hk, hn3, rfl, hz⟩ := hrel
    have HZ := Lib.hid hz
    have HN3 := Lib.hid hn3
    clear hz hn3
    by_cases hlt : k < l.length
    · obtain ⟨f, hf⟩ : ∃ f, l[k]? = some f := ⟨l[k], by simp [hlt]⟩
      obtain ⟨ad, rfl, hadb, hat⟩ := HZ.out.left.right.owns.reads k f.name (by simp [hf])
      have hcn : wr.cell? (ad.add k) = some (.string f.name) := by have := hat 0 (.string f.name) rfl; rwa [addr_add_add, show k * Lies.size ByteArray + 0 = k from Nat.mul_one k] at this
      have HF := Lib.hid hf
      have HST := Lib.hid (show StrCall (readOf f.name) from ⟨by have := okText_le (HOK.out.each f (List.mem_of_getElem? hf)).1; show f.name.size ≤ _; omega, (by decide : noText.size ≤ 140737488351232), (by decide : noText.size ≤ 140737488351232)⟩)
      clear hf hat
      go_wp2_with fail
      go_region_held3 (fun w' => w'.cell? (ad.add k) = some (.string f.name))
        (first | exact hcn6 | exact hcn5a _ | exact hcn5 | exact hcn)
        (first
          | (go_at_call 14
             obtain ⟨F5, hF5, hm5⟩ := (HZ.out.step (Touch.drew (Touch.refl _ wr))).third
             refine (files_do' _ g F5 l (readOf f.name) hF5 HOK.out HST.out (fdo_read HOK.out HF.out)).mono ?_
             rintro e w5 ⟨rfl, hq5⟩
             have H5 := Lib.hid (hm5 _ _ hq5)
             obtain ⟨hlt5, hcn5⟩ := names_at H5.out.left (show (l.map (·.name))[k]? = some f.name by simp [HF.out])
             have hcn5a := fun o => (World.cell?_of_block (w := w5) (w' := w5.alloc o) (a := ad.add k) (Below.heap_alloc w5 o _ hlt5)).trans hcn5
             clear hF5 hm5 hq5)
          | (refine step_append_own (by rfl) (.tmp 14) (.tmp 27) 32 (by rfl) elemString Try.underlying32 (v := .slice A3 n3 c3) (l := allOf (l.take k)) (by rfl) (H5.out.right.owns.ext ((Touch.refl _ w5).alloc _)) [f.name, f.text] (by rfl) (n3 + 2) (by have := HN3.out; rw [length_allOf, List.length_take, Nat.min_eq_left hk]; show 2 * k + 2 = n3 + 2; omega) (by rfl)
              (reads_row (heap_alloc_new w5 (.cells #[.string f.name, .string f.text] 9)) (l := [f.name, f.text]) (fun j v hv => by rw [flat_cons, flat_one] at hv; have hv : [Value.string f.name, Value.string f.text][j]? = some v := hv; simpa using hv) (B := w5.heap.size + 1) (by omega)) (by rw [length_allOf, List.length_take, Nat.min_eq_left hk]; show (2 * k + 2) * 16 ≤ 140737488355328; omega) ?_
             intro A6 c6 w6 hown6 hgrow6 hat6
             have H6 := Lib.hid (H5.out.append ((Touch.refl _ w5).alloc _) hown6 hgrow6 hat6)
             obtain ⟨hlt6, hcn6⟩ := names_at H6.out.left (show (l.map (·.name))[k]? = some f.name by simp [HF.out])
             clear hown6 hgrow6 hat6))
      go_wp2
      go_roundw
      case rel =>
        have H7 := H6.out
        rw [← allOf_take HF.out] at H7
        exact ⟨k + 1, n3 + 2, c6, A6, by go_num, by omega, by have := HN3.out; omega, rfl, H7⟩
      case measure => simp [intOf]; omega
    · obtain rfl : k = l.length := by omega
      go_wp2
      go_ret
      have H7 := HZ.out.drop
      rw [List.take_length, HN3.out] at H7
      exact ⟨A3, c3, by rw [HN3.out]; rfl, H7⟩
end Go.Proofs.Ytalfbhhldfffkab
