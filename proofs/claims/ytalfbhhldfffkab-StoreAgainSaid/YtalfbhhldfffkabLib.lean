/- Lib: two library functions, as the shelf lays them here: strings.Compare and strings.Join (printed by wip/tools/unlay.py out of the shelf's plain words), and what they say in plain terms. -/
import Derived.Shelf.Strings.Builder1
import Derived.Shelf.Strings.Builder2
import Derived.Shelf.Strings.OnBuilder
import Derived.Shelf.Small.Strs
import Derived.Test.YtalfbhhldfffkabProg
import Derived.Test.YtalfbhhldfffkabDrawer2
import Derived.Test.YtalfbhhldfffkabRep
import Derived.Test.YtalfbhhldfffkabMem
namespace Go.Proofs.Ytalfbhhldfffkab
open Go.Shelf Go.RowKit
def lays156_ren : Go.Shelf.Ren := ⟨fun | 156 => 54 | 165 => 83 | 166 => 84 | 169 => 85 | 240 => 104 | 241 => 105 | 276 => 113 | 277 => 114 | n => n, fun | 31 => 32 | 9 => 9 | 3 => 3 | 4 => 4 | 0 => 0 | 20 => 20 | 72 => 139 | 76 => 143 | 70 => 137 | 37 => 39 | 75 => 142 | 127 => 159 | 164 => 169 | 5 => 5 | 80 => 145 | n => n, fun | n => n⟩
theorem lays156 : Go.Proofs.Lays.n156 Try.prog lays156_ren := {
  mixed := by kernel_rfl
  f156 := Try.func54.trans (congrArg some (by kernel_rfl))
  f165 := Try.func83.trans (congrArg some (by kernel_rfl))
  f166 := Try.func84.trans (congrArg some (by kernel_rfl))
  f169 := Try.func85.trans (congrArg some (by kernel_rfl))
  f240 := Try.func104.trans (congrArg some (by kernel_rfl))
  f241 := Try.func105.trans (congrArg some (by kernel_rfl))
  f276 := Try.func113.trans (congrArg some (by kernel_rfl))
  f277 := Try.func114.trans (congrArg some (by kernel_rfl))
  t0 := Try.underlying0
  a0 := Try.isAgg0
  z0 := Try.sizeOf0
  v0 := Try.zeroValue0
  t3 := Try.underlying3
  a3 := Try.isAgg3
  z3 := Try.sizeOf3
  v3 := Try.zeroValue3
  t4 := Try.underlying4
  a4 := Try.isAgg4
  z4 := Try.sizeOf4
  v4 := Try.zeroValue4
  t9 := Try.underlying9
  a9 := Try.isAgg9
  z9 := Try.sizeOf9
  v9 := Try.zeroValue9
  t20 := Try.underlying20
  a20 := Try.isAgg20
  z20 := Try.sizeOf20
  v20 := Try.zeroValue20
  t31 := Try.underlying32
  a31 := Try.isAgg32
  z31 := Try.sizeOf32
  v31 := Try.zeroValue32
  t37 := Try.underlying39
  a37 := Try.isAgg39
  z37 := Try.sizeOf39
  v37 := Try.zeroValue39
  t70 := Try.underlying137
  a70 := Try.isAgg137
  z70 := Try.sizeOf137
  v70 := Try.zeroValue137
  t72 := Try.underlying139
  a72 := Try.isAgg139
  z72 := Try.sizeOf139
  v72 := Try.zeroValue139
  t75 := Try.underlying142
  a75 := Try.isAgg142
  z75 := Try.sizeOf142
  v75 := Try.zeroValue142
  t76 := Try.underlying143
  a76 := Try.isAgg143
  z76 := Try.sizeOf143
  v76 := Try.zeroValue143
  t127 := Try.underlying159
  a127 := Try.isAgg159
  z127 := Try.sizeOf159
  v127 := Try.zeroValue159
  t164 := Try.underlying169
  a164 := Try.isAgg169
  z164 := Try.sizeOf169
  v164 := Try.zeroValue169 }
theorem Builder_Extra_156 : Builder.Extra Try.prog lays156_ren := {
  sizeBuilder := by kernel_rfl
  liesBuilder := by kernel_rfl
  t5 := Try.underlying5
  a5 := Try.isAgg5
  z5 := Try.sizeOf5
  v5 := Try.zeroValue5
  infoByte := by kernel_rfl
  cellsByte := by kernel_rfl
  sizeByte := by kernel_rfl
  neB5 := by decide }
theorem strings_Join_none (a : Option Addr) (c : Nat) (sep : ByteArray) (w : World) :
    Calls Try.prog 54 #[.slice a 0 c, .string sep] w fun e w' => e = .returned (.string ⟨#[]⟩) ∧ w' = w := Any.strings_Join_none lays156 Builder_Extra_156 a c sep w
theorem strings_Join (bk o c : Nat) (xs : List ByteArray) (sep : ByteArray) (w : World) (hcells : ∀ (j : Nat) x, xs[j]? = some x → w.cell? ⟨bk, o + j, none⟩ = some (.string x)) (hbk : bk < w.heap.size) (hN : xs.length ≤ 140737488355328) (hcap : xs.length ≤ c) (hlen : (Lib.join (xs.map (·.data.toList)) sep.data.toList).length ≤ 140737488355328) :
    Calls Try.prog 54 #[.slice (some ⟨bk, o, none⟩) xs.length c, .string sep] w fun e w' => e = .returned (.string ⟨(Lib.join (xs.map (·.data.toList)) sep.data.toList).toArray⟩) ∧ Below w.heap.size w w' := Any.strings_Join lays156 Builder_Extra_156 bk o c xs sep w hcells hbk hN hcap hlen
def lays106_ren : Go.Shelf.Ren := ⟨fun | 106 => 88 | 213 => 106 | 265 => 115 | n => n, fun | 9 => 9 | 3 => 3 | n => n, fun | n => n⟩
theorem lays106 : Go.Proofs.Lays.n106 Try.prog lays106_ren := {
  mixed := by kernel_rfl
  f106 := Try.func88.trans (congrArg some (by kernel_rfl))
  f213 := Try.func106.trans (congrArg some (by kernel_rfl))
  f265 := Try.func115.trans (congrArg some (by kernel_rfl))
  t3 := Try.underlying3
  a3 := Try.isAgg3
  z3 := Try.sizeOf3
  v3 := Try.zeroValue3
  t9 := Try.underlying9
  a9 := Try.isAgg9
  z9 := Try.sizeOf9
  v9 := Try.zeroValue9 }
theorem strings_Compare (a b : ByteArray) (w : World) :
    Calls Try.prog 88 #[.string a, .string b] w fun e w' => e = .returned (.int .i64 (Lib.compareBytes a.data.toList b.data.toList)) ∧ w' = w := Any.strings_Compare lays106 a b w

open Go.RowKit

/-! ### strings.Compare -/
def cmp3 (a b : ByteArray) : Int := Lib.compareBytes a.data.toList b.data.toList
theorem compareBytes_less (x y : List UInt8) : (Lib.compareBytes x y < 0) = (x < y) := by
  induction x generalizing y with
  | nil => cases y <;> simp [Lib.compareBytes]
  | cons a x ih =>
    cases y with
    | nil => simp [Lib.compareBytes]
    | cons b y =>
      unfold Lib.compareBytes
      rw [List.cons_lt_cons_iff]
      by_cases h1 : a < b
      · simp [h1]
      · by_cases h2 : b < a
        · have : a ≠ b := by rintro rfl; exact h1 h2
          simp [h1, h2, this]
        · have : a = b := by
            apply UInt8.toNat_inj.1
            have h1' : ¬ a.toNat < b.toNat := h1
            have h2' : ¬ b.toNat < a.toNat := h2
            omega
          subst this
          simp [ih]
theorem compareBytes_same (x y : List UInt8) : (Lib.compareBytes x y = 0) = (x = y) := by
  induction x generalizing y with
  | nil => cases y <;> simp [Lib.compareBytes]
  | cons a x ih =>
    cases y with
    | nil => simp [Lib.compareBytes]
    | cons b y =>
      unfold Lib.compareBytes
      by_cases h1 : a < b
      · have : a ≠ b := by rintro rfl; exact absurd h1 (Nat.lt_irrefl _)
        simp [h1, this]
      · by_cases h2 : b < a
        · have : a ≠ b := by rintro rfl; exact h1 h2
          simp [h1, h2, this]
        · have : a = b := by
            apply UInt8.toNat_inj.1
            have h1' : ¬ a.toNat < b.toNat := h1
            have h2' : ¬ b.toNat < a.toNat := h2
            omega
          subst this
          simp [ih]
theorem cmp3_less (a b : ByteArray) : (cmp3 a b < 0) = (bless a b = true) := by
  unfold cmp3
  rw [compareBytes_less, bless_iff, decide_eq_true_eq, ByteArray.toList_eq, ByteArray.toList_eq]
theorem cmp3_same (a b : ByteArray) : (cmp3 a b = 0) = (a = b) := by
  unfold cmp3
  rw [compareBytes_same, ← ByteArray.toList_eq, ← ByteArray.toList_eq]
  exact propext ⟨toList_inj, fun h => by rw [h]⟩
theorem compare_names (a b : ByteArray) (w : World) : Calls Try.prog 88 #[.string a, .string b] w fun e w' => e = .returned (.int .i64 (cmp3 a b)) ∧ w' = w := strings_Compare a b w

/-! ### strings.Join -/
theorem joinSp_eq (xs : List ByteArray) : (⟨(Lib.join (xs.map (·.data.toList)) [32]).toArray⟩ : ByteArray) = joinSp xs := by
  cases xs with
  | nil => rfl
  | cons x l =>
    rw [List.map_cons, Lib.join_cons]
    show _ = l.foldl (fun s y => s ++ (⟨#[32]⟩ : ByteArray) ++ y) x
    induction l generalizing x with
    | nil => simp [Lib.joinTail]
    | cons y l ih =>
      rw [List.foldl_cons, ← ih]
      simp [Lib.joinTail, ByteArray.data_append]
def JoinPost (w : World) (xs : List ByteArray) (e : Ending) (w' : World) : Prop := e = .returned (.string (joinSp xs)) ∧ Ext w w'
theorem join_names (w : World) {E : TypeId} (A : Option Addr) (n c : Nat) (xs : List ByteArray) (h : Owns w E (.slice A n c) xs) (hn : xs.length ≤ 100000) (hlen : (Lib.join (xs.map (·.data.toList)) [32]).length ≤ 140737488355328) :
    Calls Try.prog 54 #[.slice A n c, .string ⟨#[32]⟩] w (JoinPost w xs) := by
  obtain ⟨A', c', hv, hc, hcm, hr⟩ := h.form
  injection hv with h1 h2 h3
  subst h1; subst h2; subst h3
  rcases A with _ | ad
  · have h0 := h.none_nil
    subst h0
    refine (strings_Join_none none c ⟨#[32]⟩ w).mono ?_
    rintro e w' ⟨rfl, rfl⟩
    exact ⟨rfl, Touch.refl _ _⟩
  · obtain ⟨g, rfl⟩ := h.some_form
    have hg : g < w.heap.size := by
      rcases h.2 with ⟨hv, _⟩ | ⟨g', cap, cur, hv, _, hg, _⟩
      · cases hv
      · injection hv with h1; injection h1 with h1; injection h1 with h1; subst h1
        exact (Array.getElem?_eq_some_iff.1 hg).1
    unfold maxLen at hcm
    refine (strings_Join g 0 c xs ⟨#[32]⟩ w (fun j x hx => ?_) hg (by omega) hc hlen).mono ?_
    · obtain ⟨ad', he, _, hat⟩ := hr j x hx
      injection he with he
      subst he
      have h1 := hat 0 _ rfl
      have h2 : ((⟨g, 0, none⟩ : Addr).add (j * Lies.size ByteArray)).add 0 = ⟨g, 0 + j, none⟩ := by
        show ((⟨g, 0, none⟩ : Addr).add (j * 1)).add 0 = _
        unfold Addr.add; split <;> split <;> simp_all
      rw [h2] at h1
      exact h1
    · rintro e w' ⟨rfl, hb⟩
      exact ⟨by rw [← joinSp_eq], ⟨hb.os, hb.tape, hb.output, hb.size, fun k hk _ => hb.block k hk⟩⟩
end Go.Proofs.Ytalfbhhldfffkab
