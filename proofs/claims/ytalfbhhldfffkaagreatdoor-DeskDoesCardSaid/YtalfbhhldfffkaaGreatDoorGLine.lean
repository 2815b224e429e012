/- LineLib: strings.SplitN and strconv.Itoa as the shelf lays them here (printed by wip/tools/unlay.py out of the shelf's plain words). (And behind it: Line1, Line2, Line3, Line4, Line5.) -/
import Derived.Shelf.LaysM
import Derived.Shelf.Strconv.Itoa0
import Derived.Shelf.Strconv.Itoa1
import Derived.Shelf.Strconv.Itoa2
import Derived.Shelf.Strconv.Itoa3
import Derived.Shelf.Strings.Search1
import Derived.Shelf.Strings.Search2
import Derived.Shelf.Strings.Search3
import Derived.Shelf.Strings.Count
import Derived.Shelf.Strings.Shaped
import Derived.Shelf.Strings.Split
import Derived.Shelf.Strings.SplitShaped
import Derived.Test.YtalfbhhldfffkaaGreatDoorProg
import Derived.Test.YtalfbhhldfffkaaGreatDoorBase
import Derived.Test.YtalfbhhldfffkaaGreatDoorMem
import Derived.Test.YtalfbhhldfffkaaGreatDoorGDeskP
import Derived.Test.YtalfbhhldfffkaaGreatDoorTypes
import Derived.Test.YtalfbhhldfffkaaGreatDoorRead
import Derived.Lib.ItoaLen
import Derived.Deep.RegionHeld3
import Derived.Test.YtalfbhhldfffkaaGreatDoorGCheck
import Derived.Test.YtalfbhhldfffkaaGreatDoorGBasis
set_option maxHeartbeats 8000000
set_option maxRecDepth 100000
namespace Go.Proofs.YtalfbhhldfffkaaGreatDoor
open Go.RowKit
end Go.Proofs.YtalfbhhldfffkaaGreatDoor
namespace Go.Proofs.YtalfbhhldfffkaaGreatDoor
open Go.Shelf Go.RowKit
def laysM171_ren : Go.Shelf.Ren := ⟨fun | 171 => 54 | 243 => 84 | 246 => 125 | 283 => 150 | 284 => 151 | 285 => 152 | 286 => 153 | 129 => 165 | 317 => 164 | 318 => 166 | 319 => 167 | 320 => 168 | 337 => 177 | 338 => 178 | n => n, fun | 3 => 3 | 9 => 9 | 2 => 2 | 4 => 4 | 171 => 202 | 0 => 0 | 53 => 192 | 37 => 40 | 5 => 5 | 173 => 205 | 212 => 228 | 51 => 172 | 20 => 20 | 213 => 229 | 46 => 147 | 232 => 244 | 233 => 245 | n => n, fun | 17 => 5 | 18 => 6 | 19 => 7 | n => n⟩
theorem laysM171 : Go.Proofs.LaysM.n171 Tryz.prog laysM171_ren := {
 mixed := by kernel_rfl
 f129 := Tryz.func165.trans (congrArg some (by kernel_rfl))
 f171 := Tryz.func54.trans (congrArg some (by kernel_rfl))
 f243 := Tryz.func84.trans (congrArg some (by kernel_rfl))
 f246 := Tryz.func125.trans (congrArg some (by kernel_rfl))
 f283 := Tryz.func150.trans (congrArg some (by kernel_rfl))
 f284 := Tryz.func151.trans (congrArg some (by kernel_rfl))
 f285 := Tryz.func152.trans (congrArg some (by kernel_rfl))
 f286 := Tryz.func153.trans (congrArg some (by kernel_rfl))
 f317 := Tryz.func164.trans (congrArg some (by kernel_rfl))
 f318 := Tryz.func166.trans (congrArg some (by kernel_rfl))
 f319 := Tryz.func167.trans (congrArg some (by kernel_rfl))
 f320 := Tryz.func168.trans (congrArg some (by kernel_rfl))
 f337 := Tryz.func177.trans (congrArg some (by kernel_rfl))
 f338 := Tryz.func178.trans (congrArg some (by kernel_rfl))
 t0 := Tryz.underlying0
 a0 := Tryz.isAgg0
 z0 := Tryz.sizeOf0
 v0 := Tryz.zeroValue0
 t2 := Tryz.underlying2
 a2 := Tryz.isAgg2
 z2 := Tryz.sizeOf2
 v2 := Tryz.zeroValue2
 t3 := Tryz.underlying3
 a3 := Tryz.isAgg3
 z3 := Tryz.sizeOf3
 v3 := Tryz.zeroValue3
 t4 := Tryz.underlying4
 a4 := Tryz.isAgg4
 z4 := Tryz.sizeOf4
 v4 := Tryz.zeroValue4
 t5 := Tryz.underlying5
 a5 := Tryz.isAgg5
 z5 := Tryz.sizeOf5
 v5 := Tryz.zeroValue5
 t9 := Tryz.underlying9
 a9 := Tryz.isAgg9
 z9 := Tryz.sizeOf9
 v9 := Tryz.zeroValue9
 t20 := Tryz.underlying20
 a20 := Tryz.isAgg20
 z20 := Tryz.sizeOf20
 v20 := Tryz.zeroValue20
 t37 := Tryz.underlying40
 a37 := Tryz.isAgg40
 z37 := Tryz.sizeOf40
 v37 := Tryz.zeroValue40
 t46 := Tryz.underlying147
 a46 := Tryz.isAgg147
 z46 := Tryz.sizeOf147
 v46 := Tryz.zeroValue147
 t51 := Tryz.underlying172
 a51 := Tryz.isAgg172
 z51 := Tryz.sizeOf172
 v51 := Tryz.zeroValue172
 t53 := Tryz.underlying192
 a53 := Tryz.isAgg192
 z53 := Tryz.sizeOf192
 v53 := Tryz.zeroValue192
 t171 := Tryz.underlying202
 a171 := Tryz.isAgg202
 z171 := Tryz.sizeOf202
 v171 := Tryz.zeroValue202
 t173 := Tryz.underlying205
 a173 := Tryz.isAgg205
 z173 := Tryz.sizeOf205
 v173 := Tryz.zeroValue205
 t212 := Tryz.underlying228
 a212 := Tryz.isAgg228
 z212 := Tryz.sizeOf228
 v212 := Tryz.zeroValue228
 t213 := Tryz.underlying229
 a213 := Tryz.isAgg229
 z213 := Tryz.sizeOf229
 t232 := Tryz.underlying244
 a232 := Tryz.isAgg244
 z232 := Tryz.sizeOf244
 v232 := Tryz.zeroValue244
 t233 := Tryz.underlying245
 a233 := Tryz.isAgg245
 z233 := Tryz.sizeOf245
 v233 := Tryz.zeroValue245
 g17 := by kernel_rfl
 g18 := by kernel_rfl
 g19 := by kernel_rfl
 i0 := by kernel_rfl
 i2 := by kernel_rfl
 i3 := by kernel_rfl
 i4 := by kernel_rfl
 i5 := by kernel_rfl
 i9 := by kernel_rfl
 i20 := by kernel_rfl
 i37 := by kernel_rfl
 i46 := by kernel_rfl
 i51 := by kernel_rfl
 i53 := by kernel_rfl
 i171 := by kernel_rfl
 i173 := by kernel_rfl
 i212 := by kernel_rfl
 i232 := by kernel_rfl
 i233 := by kernel_rfl
 m17 := by kernel_rfl
 m18 := by kernel_rfl
 m19 := by kernel_rfl }
open Go.RowKit Go.Sort Go.Lib in
theorem strconv_Itoa (n : Int) (h0 : -9223372036854775808 <= n) (h1 : n <= 9223372036854775807) (w : World) (htab : Lib.TabIs Tryz.prog w "internal/strconv.uint64pow10" .u64 Lib.pow10Tab) :
 Calls Tryz.prog 54 #[.int .i64 n] w fun e w' => e = .returned (.string ⟨(Lib.itoa n).toArray⟩) /\ ∃ k os, w' = grow (w.drewN k) os := Any.strconv_Itoa laysM171 n h0 h1 w htab
def lays147_ren : Go.Shelf.Ren := ⟨fun | 147 => 23 | 221 => 48 | 268 => 78 | 138 => 79 | 143 => 22 | 195 => 120 | 197 => 121 | 218 => 122 | 219 => 47 | 260 => 148 | 217 => 74 | 225 => 75 | 224 => 76 | 267 => 77 | 266 => 118 | 314 => 119 | n => n, fun | 9 => 9 | 3 => 3 | 31 => 22 | 4 => 4 | 0 => 0 | 105 => 175 | 21 => 21 | 5 => 5 | 46 => 147 | 119 => 223 | 139 => 226 | 138 => 225 | 146 => 173 | 51 => 172 | n => n, fun | 1 => 0 | 3 => 3 | 4 => 4 | n => n⟩
theorem lays147 : Go.Proofs.Lays.n147 Tryz.prog lays147_ren := {
 mixed := by kernel_rfl
 f138 := Tryz.func79.trans (congrArg some (by kernel_rfl))
 f143 := Tryz.func22.trans (congrArg some (by kernel_rfl))
 f147 := Tryz.func23.trans (congrArg some (by kernel_rfl))
 f195 := Tryz.func120.trans (congrArg some (by kernel_rfl))
 f197 := Tryz.func121.trans (congrArg some (by kernel_rfl))
 f217 := Tryz.func74.trans (congrArg some (by kernel_rfl))
 f218 := Tryz.func122.trans (congrArg some (by kernel_rfl))
 f219 := Tryz.func47.trans (congrArg some (by kernel_rfl))
 f221 := Tryz.func48.trans (congrArg some (by kernel_rfl))
 f224 := Tryz.func76.trans (congrArg some (by kernel_rfl))
 f225 := Tryz.func75.trans (congrArg some (by kernel_rfl))
 f260 := Tryz.func148.trans (congrArg some (by kernel_rfl))
 f266 := Tryz.func118.trans (congrArg some (by kernel_rfl))
 f267 := Tryz.func77.trans (congrArg some (by kernel_rfl))
 f268 := Tryz.func78.trans (congrArg some (by kernel_rfl))
 f314 := Tryz.func119.trans (congrArg some (by kernel_rfl))
 t0 := Tryz.underlying0
 a0 := Tryz.isAgg0
 z0 := Tryz.sizeOf0
 v0 := Tryz.zeroValue0
 t3 := Tryz.underlying3
 a3 := Tryz.isAgg3
 z3 := Tryz.sizeOf3
 v3 := Tryz.zeroValue3
 t4 := Tryz.underlying4
 a4 := Tryz.isAgg4
 z4 := Tryz.sizeOf4
 v4 := Tryz.zeroValue4
 t5 := Tryz.underlying5
 a5 := Tryz.isAgg5
 z5 := Tryz.sizeOf5
 v5 := Tryz.zeroValue5
 t9 := Tryz.underlying9
 a9 := Tryz.isAgg9
 z9 := Tryz.sizeOf9
 v9 := Tryz.zeroValue9
 t21 := Tryz.underlying21
 a21 := Tryz.isAgg21
 z21 := Tryz.sizeOf21
 v21 := Tryz.zeroValue21
 t31 := Tryz.underlying22
 a31 := Tryz.isAgg22
 z31 := Tryz.sizeOf22
 v31 := Tryz.zeroValue22
 t46 := Tryz.underlying147
 a46 := Tryz.isAgg147
 z46 := Tryz.sizeOf147
 v46 := Tryz.zeroValue147
 t51 := Tryz.underlying172
 a51 := Tryz.isAgg172
 z51 := Tryz.sizeOf172
 v51 := Tryz.zeroValue172
 t105 := Tryz.underlying175
 a105 := Tryz.isAgg175
 z105 := Tryz.sizeOf175
 v105 := Tryz.zeroValue175
 t119 := Tryz.underlying223
 a119 := Tryz.isAgg223
 z119 := Tryz.sizeOf223
 t138 := Tryz.underlying225
 a138 := Tryz.isAgg225
 z138 := Tryz.sizeOf225
 v138 := Tryz.zeroValue225
 t139 := Tryz.underlying226
 a139 := Tryz.isAgg226
 z139 := Tryz.sizeOf226
 v139 := Tryz.zeroValue226
 t146 := Tryz.underlying173
 a146 := Tryz.isAgg173
 z146 := Tryz.sizeOf173
 v146 := Tryz.zeroValue173
 g1 := by kernel_rfl
 g3 := by kernel_rfl
 g4 := by kernel_rfl }
open Go.RowKit Go.Lib in
theorem strings_SplitN (s sep : ByteArray) (n : Nat) (m : Int) (w : World) (hs : s.size < 4294967281) (hm : w.cell? ⟨0, 0, none⟩ = some (.int .i64 m)) (h1 : 1 <= sep.size) (hn : 1 <= n) (hn63 : n <= 9223372036854775807) :
 Calls Tryz.prog 23 #[.string s, .string sep, .int .i64 n] w fun e w' =>
  e = .returned (.slice (some ⟨w.heap.size, 0, none⟩) (Lib.splitB sep 0 (min n (s.size + 1) - 1) s).length (min n (s.size + 1))) /\ w' = w.alloc (.cells (Lib.cellsOf (Lib.splitB sep 0 (min n (s.size + 1) - 1) s) (min n (s.size + 1))) 9) := Any.strings_SplitN lays147 (by kernel_rfl) s sep n m w hs hm h1 hn hn63
def laysM147_ren : Go.Shelf.Ren := ⟨fun | 147 => 23 | 221 => 48 | 268 => 78 | 138 => 79 | 143 => 22 | 195 => 120 | 197 => 121 | 218 => 122 | 219 => 47 | 260 => 148 | 217 => 74 | 225 => 75 | 224 => 76 | 267 => 77 | 266 => 118 | 314 => 119 | n => n, fun | 9 => 9 | 3 => 3 | 31 => 22 | 4 => 4 | 0 => 0 | 105 => 175 | 21 => 21 | 5 => 5 | 46 => 147 | 119 => 223 | 139 => 226 | 138 => 225 | 146 => 173 | 51 => 172 | n => n, fun | 1 => 0 | 3 => 3 | 4 => 4 | n => n⟩
theorem laysM147 : Go.Proofs.LaysM.n147 Tryz.prog laysM147_ren := {
 mixed := by kernel_rfl
 f138 := Tryz.func79.trans (congrArg some (by kernel_rfl))
 f143 := Tryz.func22.trans (congrArg some (by kernel_rfl))
 f147 := Tryz.func23.trans (congrArg some (by kernel_rfl))
 f195 := Tryz.func120.trans (congrArg some (by kernel_rfl))
 f197 := Tryz.func121.trans (congrArg some (by kernel_rfl))
 f217 := Tryz.func74.trans (congrArg some (by kernel_rfl))
 f218 := Tryz.func122.trans (congrArg some (by kernel_rfl))
 f219 := Tryz.func47.trans (congrArg some (by kernel_rfl))
 f221 := Tryz.func48.trans (congrArg some (by kernel_rfl))
 f224 := Tryz.func76.trans (congrArg some (by kernel_rfl))
 f225 := Tryz.func75.trans (congrArg some (by kernel_rfl))
 f260 := Tryz.func148.trans (congrArg some (by kernel_rfl))
 f266 := Tryz.func118.trans (congrArg some (by kernel_rfl))
 f267 := Tryz.func77.trans (congrArg some (by kernel_rfl))
 f268 := Tryz.func78.trans (congrArg some (by kernel_rfl))
 f314 := Tryz.func119.trans (congrArg some (by kernel_rfl))
 t0 := Tryz.underlying0
 a0 := Tryz.isAgg0
 z0 := Tryz.sizeOf0
 v0 := Tryz.zeroValue0
 t3 := Tryz.underlying3
 a3 := Tryz.isAgg3
 z3 := Tryz.sizeOf3
 v3 := Tryz.zeroValue3
 t4 := Tryz.underlying4
 a4 := Tryz.isAgg4
 z4 := Tryz.sizeOf4
 v4 := Tryz.zeroValue4
 t5 := Tryz.underlying5
 a5 := Tryz.isAgg5
 z5 := Tryz.sizeOf5
 v5 := Tryz.zeroValue5
 t9 := Tryz.underlying9
 a9 := Tryz.isAgg9
 z9 := Tryz.sizeOf9
 v9 := Tryz.zeroValue9
 t21 := Tryz.underlying21
 a21 := Tryz.isAgg21
 z21 := Tryz.sizeOf21
 v21 := Tryz.zeroValue21
 t31 := Tryz.underlying22
 a31 := Tryz.isAgg22
 z31 := Tryz.sizeOf22
 v31 := Tryz.zeroValue22
 t46 := Tryz.underlying147
 a46 := Tryz.isAgg147
 z46 := Tryz.sizeOf147
 v46 := Tryz.zeroValue147
 t51 := Tryz.underlying172
 a51 := Tryz.isAgg172
 z51 := Tryz.sizeOf172
 v51 := Tryz.zeroValue172
 t105 := Tryz.underlying175
 a105 := Tryz.isAgg175
 z105 := Tryz.sizeOf175
 v105 := Tryz.zeroValue175
 t119 := Tryz.underlying223
 a119 := Tryz.isAgg223
 z119 := Tryz.sizeOf223
 t138 := Tryz.underlying225
 a138 := Tryz.isAgg225
 z138 := Tryz.sizeOf225
 v138 := Tryz.zeroValue225
 t139 := Tryz.underlying226
 a139 := Tryz.isAgg226
 z139 := Tryz.sizeOf226
 v139 := Tryz.zeroValue226
 t146 := Tryz.underlying173
 a146 := Tryz.isAgg173
 z146 := Tryz.sizeOf173
 v146 := Tryz.zeroValue173
 g1 := by kernel_rfl
 g3 := by kernel_rfl
 g4 := by kernel_rfl
 i0 := by kernel_rfl
 i3 := by kernel_rfl
 i4 := by kernel_rfl
 i5 := by kernel_rfl
 i9 := by kernel_rfl
 i21 := by kernel_rfl
 i31 := by kernel_rfl
 i46 := by kernel_rfl
 i51 := by kernel_rfl
 i105 := by kernel_rfl
 i138 := by kernel_rfl
 i139 := by kernel_rfl
 i146 := by kernel_rfl
 m1 := by kernel_rfl
 s1_3 := fun w h => Go.Proofs.cell_of_shapedOpen_int (zero := #[.int .i64 0]) (t := 3) h (of_decide_eq_true (by kernel_rfl)) (by kernel_rfl) rfl (by kernel_rfl) (by kernel_rfl) Tryz.underlying3
 m3 := by kernel_rfl
 m4 := by kernel_rfl }
end Go.Proofs.YtalfbhhldfffkaaGreatDoor
namespace Go.Proofs.YtalfbhhldfffkaaGreatDoor
open Go.RowKit
structure Laid (w : World) : Prop where
 tab : Lib.TabIs Tryz.prog w "internal/strconv.uint64pow10" .u64 Lib.pow10Tab
 max : ∃ m, w.cell? ⟨0, 0, none⟩ = some (.int .i64 m)
theorem Laid.ext {w w' : World} (h : Laid w) (hx : Ext w w') : Laid w' := by
 refine ⟨?_, ?_⟩
 ·have h1 := h.tab;unfold Lib.TabIs World.var? at h1 ⊢;cases hg : Tryz.prog.globalNamed "internal/strconv.uint64pow10" with
  | none => rw [hg] at h1; simp at h1
  | some g =>
    rw [hg] at h1;simp only [Option.bind_some] at h1 ⊢
    have hlt : g < w.heap.size := by
     rcases Nat.lt_or_ge g w.heap.size with h2 | h2
     ·exact h2
     ·rw [Array.getElem?_eq_none h2] at h1; simp at h1
    rw [hx.block g hlt id];exact h1
 ·obtain ⟨m, hm⟩ := h.max;refine ⟨m, ?_⟩
  have hlt : 0 < w.heap.size := by
   rcases Nat.eq_zero_or_pos w.heap.size with h2 | h2
   ·unfold World.cell? at hm;simp [Array.getElem?_eq_none (Nat.le_of_eq h2)] at hm
   ·exact h2
  unfold World.cell? at hm ⊢;rw [show w'.heap[(⟨0, 0, none⟩ : Addr).block]? = w.heap[(⟨0, 0, none⟩ : Addr).block]? from hx.block 0 hlt id];exact hm
theorem ext_grow (w : World) (k : Nat) (os : Array Obj) : Ext w (Go.Sort.grow (w.drewN k) os) := by
 refine ⟨rfl, rfl, rfl, ?_, fun j hj _ => ?_⟩
 ·show w.heap.size <= (w.heap ++ os).size;rw [Array.size_append]; omega
 ·show (w.heap ++ os)[j]? = _;rw [Array.getElem?_append_left hj]
theorem itoa_le {n : Int} (h : I64 n) : (Lib.itoa n).length <= 21 := Lib.itoa_length_le n h.1 h.2
def NumPost (w : World) (n : Int) (e : Ending) (w' : World) : Prop := e = .returned (.string (mkStr (Lib.itoa n))) /\ Ext w w'
theorem line_num (w : World) (n : Int) (hn : I64 n) (hL : Laid w) : Calls Tryz.prog 136 #[.int .i64 n] w (NumPost w n) := by
 have HL := lh hL;have HN := lh hn;clear hL hn;go_enter Tryz.func136, Tryz.ntmps136
 go_wp2_with fail
 refine (strconv_Itoa n HN.out.1 HN.out.2 w HL.out.tab).mono ?_;rintro e w1 ⟨rfl, k, os, rfl⟩;have HX := lh (ext_grow w k os);go_wp2
 go_ret
 exact ⟨rfl, HX.out⟩
theorem ref_num (w : World) (n : Int) (hn : I64 n) (hL : Laid w) : Calls Tryz.prog 35 #[.int .i64 n] w (NumPost w n) := by
 have HL := lh hL;have HN := lh hn;clear hL hn;go_enter Tryz.func35, Tryz.ntmps35
 go_wp2_with fail
 refine (strconv_Itoa n HN.out.1 HN.out.2 w HL.out.tab).mono ?_;rintro e w1 ⟨rfl, k, os, rfl⟩;have HX := lh (ext_grow w k os);go_wp2
 go_ret
 exact ⟨rfl, HX.out⟩
theorem toList_cat (a b : ByteArray) : (a ++ b).toList = a.toList ++ b.toList := by rw [ByteArray.toList_eq, ByteArray.toList_eq, ByteArray.toList_eq]; simp [ByteArray.data_append]
theorem mk_app (a b : List UInt8) : mkStr a ++ mkStr b = mkStr (a ++ b) := toList_inj (by rw [toList_cat, mkStr_toList, mkStr_toList, mkStr_toList])
theorem nil_toList : (⟨#[]⟩ : ByteArray).toList = [] := by rw [ByteArray.toList_eq]
theorem sp_toList : (⟨#[32]⟩ : ByteArray).toList = [32] := by rw [ByteArray.toList_eq]
theorem no_toList : (⟨#[110, 111, 32]⟩ : ByteArray).toList = [110, 111, 32] := by rw [ByteArray.toList_eq]
theorem ok_toList : (⟨#[111, 107]⟩ : ByteArray).toList = [111, 107] := by rw [ByteArray.toList_eq]
theorem size_toList (s : ByteArray) : s.toList.length = s.size := by rw [ByteArray.toList_eq]; simp
theorem ans_eq (a : Answer) (p q : ByteArray) (hp : p.toList = ansWord a) (hq : q.toList = ansTail a) : p ++ q = mkStr (ansLine a) := toList_inj (by rw [toList_cat, hp, hq, mkStr_toList]; rfl)
theorem ans_eq3 (a : Answer) (p c q : ByteArray) (hp : p.toList = ansWord a) (hq : (c ++ q).toList = ansTail a) : p ++ c ++ q = mkStr (ansLine a) := toList_inj (by
 rw [toList_cat] at hq;rw [toList_cat, toList_cat, hp, List.append_assoc, hq, mkStr_toList]; rfl)
theorem ans_eq1 (a : Answer) (p : ByteArray) (hp : p.toList = ansWord a) (hq : (⟨#[]⟩ : ByteArray).toList = ansTail a) : p = mkStr (ansLine a) := toList_inj (by
 rw [nil_toList] at hq;rw [hp, mkStr_toList];unfold ansLine;rw [<- hq, List.append_nil])
def AnsPost (w : World) (a : Answer) (e : Ending) (w' : World) : Prop := e = .returned (.string (mkStr (ansLine a))) /\ Ext w w'
theorem line_answer (w : World) (a : Answer) (hc : I64 a.code) (ht : a.text.size <= 100000) (hL : Laid w) : Calls Tryz.prog 96 #[.agg a.cells] w (AnsPost w a) := by
 have HL := lh hL;have HC := lh hc;have hb : (w.alloc (.cells a.cells 101)).heap[w.heap.size]? = some (.cells a.cells 101 (0, 0)) := heap_alloc_new _ _;have h0 := (cell_of hb 0).trans (show a.cells[0]? = some (.int .i64 a.code) from rfl);have h1 := (cell_of hb 1).trans (show a.cells[1]? = some (.string a.text) from rfl);have HX := lh (show Ext w (w.alloc (.cells a.cells 101)) from (Touch.refl _ w).alloc _);have HB := lh hb;clear hL hc hb;go_enter Tryz.func96, Tryz.ntmps96
 go_upto_region 2 with fail
 generalize w.alloc (.cells a.cells 101) = w1 at HX HB h0 h1 ⊢;generalize w.heap.size = b at HB h0 h1 ⊢;have hw : a.code ≠ 0 -> (mkStr (Lib.itoa a.code)).size <= 21 := fun _ => by rw [mkStr_size]; exact itoa_le HC.out
 have HW := lh hw;clear hw;have hts : (a.text.size : Int) <= 100000 := by omega
 by_cases hcz : a.code = 0
 ·have hk : (a.code == 0) = true := by simp [hcz]
  have hk' : (a.code != 0) = false := by simp [hcz]
  have HAW := lh (show (⟨#[111, 107]⟩ : ByteArray).toList = ansWord a by unfold ansWord; rw [if_pos hcz, ok_toList]);by_cases he : a.text.toList = []
  ·have he1 : a.text.toList.isEmpty = true := by simp [he]
   have he2 : ¬ 0 < a.text.size := by rw [<- size_toList, he]; simp
   have HAT := lh (show (⟨#[]⟩ : ByteArray).toList = ansTail a by unfold ansTail; rw [if_pos he, nil_toList]);clear hcz he;go_wp2
   go_ret
   exact ⟨by first | exact congrArg (fun s => Ending.returned (Value.string s)) (ans_eq a _ _ HAW.out HAT.out) | exact congrArg (fun s => Ending.returned (Value.string s)) (ans_eq3 a _ _ _ HAW.out HAT.out) | exact congrArg (fun s => Ending.returned (Value.string s)) (ans_eq1 a _ HAW.out HAT.out), HX.out⟩
  ·have he1 : a.text.toList.isEmpty = false := by simp [he]
   have he2 : 0 < a.text.size := by rw [<- size_toList]; exact List.length_pos_iff.2 he
   have HAT := lh (show ((⟨#[32]⟩ : ByteArray) ++ a.text).toList = ansTail a by unfold ansTail; rw [if_neg he, toList_cat, sp_toList]; rfl);clear hcz he;go_wp2
   go_ret
   exact ⟨by first | exact congrArg (fun s => Ending.returned (Value.string s)) (ans_eq a _ _ HAW.out HAT.out) | exact congrArg (fun s => Ending.returned (Value.string s)) (ans_eq3 a _ _ _ HAW.out HAT.out) | exact congrArg (fun s => Ending.returned (Value.string s)) (ans_eq1 a _ HAW.out HAT.out), HX.out⟩
 ·have hk : (a.code == 0) = false := by simp [hcz]
  have hk' : (a.code != 0) = true := by simp [hcz]
  have hsz := HW.out hcz;have HAW := lh (show ((⟨#[110, 111, 32]⟩ : ByteArray) ++ mkStr (Lib.itoa a.code)).toList = ansWord a by unfold ansWord; rw [if_neg hcz, toList_cat, mkStr_toList, no_toList]);generalize hq : mkStr (Lib.itoa a.code) = num at *;have HQ := lh hq;clear hcz hq;go_wp2_with fail
  refine (line_num w1 a.code HC.out (HL.out.ext HX.out)).mono ?_;rw [show NumPost w1 a.code = fun e w' => e = .returned (.string num) /\ Ext w1 w' from by unfold NumPost; rw [HQ.out]];rintro e w2 ⟨rfl, hx2⟩;have hb2 := hx2.blk HB.out id;have h0' := (cell_of hb2 0).trans (show a.cells[0]? = some (.int .i64 a.code) from rfl);have h1' := (cell_of hb2 1).trans (show a.cells[1]? = some (.string a.text) from rfl);have HX2 := lh (HX.out.trans hx2);clear hx2 hb2 h0 h1;by_cases he : a.text.toList = []
  ·have he1 : a.text.toList.isEmpty = true := by simp [he]
   have he2 : ¬ 0 < a.text.size := by rw [<- size_toList, he]; simp
   have HAT := lh (show (⟨#[]⟩ : ByteArray).toList = ansTail a by unfold ansTail; rw [if_pos he, nil_toList]);clear he;go_wp2
   go_ret
   exact ⟨by first | exact congrArg (fun s => Ending.returned (Value.string s)) (ans_eq a _ _ HAW.out HAT.out) | exact congrArg (fun s => Ending.returned (Value.string s)) (ans_eq3 a _ _ _ HAW.out HAT.out) | exact congrArg (fun s => Ending.returned (Value.string s)) (ans_eq1 a _ HAW.out HAT.out), HX2.out⟩
  ·have he1 : a.text.toList.isEmpty = false := by simp [he]
   have he2 : 0 < a.text.size := by rw [<- size_toList]; exact List.length_pos_iff.2 he
   have HAT := lh (show ((⟨#[32]⟩ : ByteArray) ++ a.text).toList = ansTail a by unfold ansTail; rw [if_neg he, toList_cat, sp_toList]; rfl);clear he;go_wp2
   go_ret
   exact ⟨by first | exact congrArg (fun s => Ending.returned (Value.string s)) (ans_eq a _ _ HAW.out HAT.out) | exact congrArg (fun s => Ending.returned (Value.string s)) (ans_eq3 a _ _ _ HAW.out HAT.out) | exact congrArg (fun s => Ending.returned (Value.string s)) (ans_eq1 a _ HAW.out HAT.out), HX2.out⟩
theorem ref_answer (w : World) (a : Answer) (hc : I64 a.code) (ht : a.text.size <= 100000) (hL : Laid w) : Calls Tryz.prog 70 #[.agg a.cells] w (AnsPost w a) := by
 have HL := lh hL;have HC := lh hc;have hb : (w.alloc (.cells a.cells 101)).heap[w.heap.size]? = some (.cells a.cells 101 (0, 0)) := heap_alloc_new _ _;have h0 := (cell_of hb 0).trans (show a.cells[0]? = some (.int .i64 a.code) from rfl);have h1 := (cell_of hb 1).trans (show a.cells[1]? = some (.string a.text) from rfl);have HX := lh (show Ext w (w.alloc (.cells a.cells 101)) from (Touch.refl _ w).alloc _);have HB := lh hb;clear hL hc hb;go_enter Tryz.func70, Tryz.ntmps70
 go_upto_region 2 with fail
 generalize w.alloc (.cells a.cells 101) = w1 at HX HB h0 h1 ⊢;generalize w.heap.size = b at HB h0 h1 ⊢;have hw : a.code ≠ 0 -> (mkStr (Lib.itoa a.code)).size <= 21 := fun _ => by rw [mkStr_size]; exact itoa_le HC.out
 have HW := lh hw;clear hw;have hts : (a.text.size : Int) <= 100000 := by omega
 by_cases hcz : a.code = 0
 ·have hk : (a.code == 0) = true := by simp [hcz]
  have hk' : (a.code != 0) = false := by simp [hcz]
  have HAW := lh (show (⟨#[111, 107]⟩ : ByteArray).toList = ansWord a by unfold ansWord; rw [if_pos hcz, ok_toList]);by_cases he : a.text.toList = []
  ·have he1 : a.text.toList.isEmpty = true := by simp [he]
   have he2 : ¬ 0 < a.text.size := by rw [<- size_toList, he]; simp
   have HAT := lh (show (⟨#[]⟩ : ByteArray).toList = ansTail a by unfold ansTail; rw [if_pos he, nil_toList]);clear hcz he;go_wp2
   go_ret
   exact ⟨by first | exact congrArg (fun s => Ending.returned (Value.string s)) (ans_eq a _ _ HAW.out HAT.out) | exact congrArg (fun s => Ending.returned (Value.string s)) (ans_eq3 a _ _ _ HAW.out HAT.out) | exact congrArg (fun s => Ending.returned (Value.string s)) (ans_eq1 a _ HAW.out HAT.out), HX.out⟩
  ·have he1 : a.text.toList.isEmpty = false := by simp [he]
   have he2 : 0 < a.text.size := by rw [<- size_toList]; exact List.length_pos_iff.2 he
   have HAT := lh (show ((⟨#[32]⟩ : ByteArray) ++ a.text).toList = ansTail a by unfold ansTail; rw [if_neg he, toList_cat, sp_toList]; rfl);clear hcz he;go_wp2
   go_ret
   exact ⟨by first | exact congrArg (fun s => Ending.returned (Value.string s)) (ans_eq a _ _ HAW.out HAT.out) | exact congrArg (fun s => Ending.returned (Value.string s)) (ans_eq3 a _ _ _ HAW.out HAT.out) | exact congrArg (fun s => Ending.returned (Value.string s)) (ans_eq1 a _ HAW.out HAT.out), HX.out⟩
 ·have hk : (a.code == 0) = false := by simp [hcz]
  have hk' : (a.code != 0) = true := by simp [hcz]
  have hsz := HW.out hcz;have HAW := lh (show ((⟨#[110, 111, 32]⟩ : ByteArray) ++ mkStr (Lib.itoa a.code)).toList = ansWord a by unfold ansWord; rw [if_neg hcz, toList_cat, mkStr_toList, no_toList]);generalize hq : mkStr (Lib.itoa a.code) = num at *;have HQ := lh hq;clear hcz hq;go_wp2_with fail
  refine (ref_num w1 a.code HC.out (HL.out.ext HX.out)).mono ?_;rw [show NumPost w1 a.code = fun e w' => e = .returned (.string num) /\ Ext w1 w' from by unfold NumPost; rw [HQ.out]];rintro e w2 ⟨rfl, hx2⟩;have hb2 := hx2.blk HB.out id;have h0' := (cell_of hb2 0).trans (show a.cells[0]? = some (.int .i64 a.code) from rfl);have h1' := (cell_of hb2 1).trans (show a.cells[1]? = some (.string a.text) from rfl);have HX2 := lh (HX.out.trans hx2);clear hx2 hb2 h0 h1;by_cases he : a.text.toList = []
  ·have he1 : a.text.toList.isEmpty = true := by simp [he]
   have he2 : ¬ 0 < a.text.size := by rw [<- size_toList, he]; simp
   have HAT := lh (show (⟨#[]⟩ : ByteArray).toList = ansTail a by unfold ansTail; rw [if_pos he, nil_toList]);clear he;go_wp2
   go_ret
   exact ⟨by first | exact congrArg (fun s => Ending.returned (Value.string s)) (ans_eq a _ _ HAW.out HAT.out) | exact congrArg (fun s => Ending.returned (Value.string s)) (ans_eq3 a _ _ _ HAW.out HAT.out) | exact congrArg (fun s => Ending.returned (Value.string s)) (ans_eq1 a _ HAW.out HAT.out), HX2.out⟩
  ·have he1 : a.text.toList.isEmpty = false := by simp [he]
   have he2 : 0 < a.text.size := by rw [<- size_toList]; exact List.length_pos_iff.2 he
   have HAT := lh (show ((⟨#[32]⟩ : ByteArray) ++ a.text).toList = ansTail a by unfold ansTail; rw [if_neg he, toList_cat, sp_toList]; rfl);clear he;go_wp2
   go_ret
   exact ⟨by first | exact congrArg (fun s => Ending.returned (Value.string s)) (ans_eq a _ _ HAW.out HAT.out) | exact congrArg (fun s => Ending.returned (Value.string s)) (ans_eq3 a _ _ _ HAW.out HAT.out) | exact congrArg (fun s => Ending.returned (Value.string s)) (ans_eq1 a _ HAW.out HAT.out), HX2.out⟩
theorem getElem_toList {s : ByteArray} {k : Nat} (h : k < s.size) : s.toList[k]? = some s[k] := by
 rw [ByteArray.toList_eq, List.getElem?_eq_getElem (by simpa using h)];congr 1
theorem extract_take (s : ByteArray) (k : Nat) (_hk : k <= s.size) : s.extract 0 k = mkStr (s.toList.take k) := toList_inj (by
 rw [mkStr_toList, ByteArray.toList_eq, ByteArray.toList_eq];simp)
theorem extract_drop (s : ByteArray) (k : Nat) : s.extract k s.size = mkStr (s.toList.drop k) := toList_inj (by
 rw [mkStr_toList, ByteArray.toList_eq, ByteArray.toList_eq, ByteArray.data_extract, Array.toList_extract];simp [List.extract];rw [List.take_of_length_le];simp)
theorem word_hit {s : ByteArray} {k : Nat} (hk : k < s.size) (hn : NoBlank (s.toList.take k)) (hb : s[k] = 32) : wordOf s.toList = (s.toList.take k, s.toList.drop (k + 1), true) := by
 have h1 : s.toList = s.toList.take k ++ 32 :: s.toList.drop (k + 1) := by
  have h2 := getElem_toList hk;rw [hb] at h2;obtain ⟨hl, he⟩ := lG h2;conv => lhs; rw [<- List.take_append_drop k s.toList, List.drop_eq_getElem_cons hl, he]
 conv => lhs; rw [h1]
 exact wordOf_append hn _
theorem noBlank_next {s : ByteArray} {k : Nat} (hk : k < s.size) (hn : NoBlank (s.toList.take k)) (hb : s[k] ≠ 32) : NoBlank (s.toList.take (k + 1)) := fun b hm => by
 rw [List.take_add_one, getElem_toList hk] at hm;rcases List.mem_append.1 hm with hm | hm
 ·exact hn b hm
 ·have : b = s[k] := by simpa using hm
  rw [this]; exact hb
theorem u8_32 {b : UInt8} : ((b.toNat : Int) = 32) ↔ b = 32 := by
 constructor
 ·intro h;exact UInt8.toNat_inj.1 (by show b.toNat = 32; omega)
 ·intro h;subst h;rfl
def WordPost (w : World) (s : ByteArray) (e : Ending) (w' : World) : Prop := e = .returned (.tuple #[.string (mkStr (wordOf s.toList).1), .string (mkStr (wordOf s.toList).2.1), .bool (wordOf s.toList).2.2]) /\ Ext w w'
theorem ref_word (w : World) (s : ByteArray) (hs : s.size <= 100000) : Calls Tryz.prog 33 #[.string s] w (WordPost w s) := by
 go_enter Tryz.func33, Tryz.ntmps33
 go_wp2_with fail
 go_loopw [5] (fun i wr => ∃ k : Nat, i = .int .i64 k /\ k <= s.size /\ NoBlank (s.toList.take k) /\ wr = w) (fun i _ => s.size - (intOf i).toNat)
 case atStart => exact ⟨0, rfl, Nat.zero_le _, fun b hb => by simp at hb, rfl⟩
 case round =>
  obtain ⟨k, rfl, hk, hn, rfl⟩ := hrel;have HN := lh hn;clear hn;by_cases hlt : k < s.size
  ·by_cases hb : s[k] = 32
   ·have HW := lh (word_hit hlt HN.out hb);have hb' : ((s[k].toNat : Int) == 32) = true := by rw [beq_iff_eq]; exact u8_32.2 hb
    have HE1 := lh (extract_take s k (by omega));have HE2 := lh (extract_drop s (k + 1));have hwr : IntKind.i64.wrap ((k : Int) + 1) = (k : Int) + 1 := IntWalk.i64_in _ (by omega);have hk1 : (k : Int) + 1 <= s.size := by omega
    have hk0 : (0 : Int) <= (k : Int) + 1 := by omega
    have hk2 : ((k : Int) + 1).toNat = k + 1 := by omega
    clear hb;go_wp2_with fail
    refine wp_region_held_drew (S := fun w' => Ext wr w') (by kernel_rfl) (Touch.drew (Touch.refl _ wr)) (fun hHeld => ?_);refine tK 0 ?_;try simp only [pS]
    refine tK 1 ?_;try simp only [pS]
    refine tK 2 ?_;try simp only [pS]
    refine tK 3 ?_;try simp only [pS]
    refine tK 4 ?_;try simp only [pS]
    refine tK 5 ?_;try simp only [pS]
    refine tK 6 ?_;try simp only [pS]
    refine tK 7 ?_;try simp only [pS]
    refine tK 8 ?_;try simp only [pS]
    refine tK 9 ?_;try simp only [pS]
    refine tD ?_;clear hHeld;go_wp2
    go_ret3
    unfold WordPost;rw [HW.out, <- HE1.out, <- HE2.out];exact ⟨rfl, (Touch.refl _ _).drewN _⟩
   ·have HB := lh hb;have hb' : ((s[k].toNat : Int) == 32) = false := by rw [beq_eq_false_iff_ne]; exact fun e => hb (u8_32.1 e)
    clear hb;go_wp2
    go_roundw
    case rel => exact ⟨k + 1, by go_num, by omega, noBlank_next hlt HN.out HB.out, by trivial⟩
    case measure => simp [intOf]; omega
  ·obtain rfl : k = s.size := by omega
   have HW := lh (wordOf_none (w := s.toList) (by have := HN.out; rwa [List.take_of_length_le (by rw [size_toList]; omega)] at this));go_wp2
   go_ret3
   unfold WordPost;rw [HW.out];exact ⟨by rw [mkStr_of]; rfl, Touch.refl _ _⟩
theorem line_words (w : World) : Calls Tryz.prog 50 #[] w (NewList w 9 wordsL) := by
 go_enter Tryz.func50, Tryz.ntmps50
 go_wp2
 go_ret
 exact ⟨some ⟨w.heap.size, 0, none⟩, 7, rfl, own_take_drop (heap_alloc_new _ _) rfl (by decide) (by decide) rfl rfl, (Touch.refl _ w).alloc _, fun k hk => by simp [Value.ownBlock] at hk; omega⟩
theorem idx_here {l : List ByteArray} {v : ByteArray} {k : Nat} (hn : idxUpto l v k) (hk : l[k]? = some v) : idxOf l v = k := by
 obtain ⟨hl, he⟩ := lG hk
 have : l.findIdx? (fun x => decide (x = v)) = some k := List.findIdx?_eq_some_iff_getElem.2 ⟨hl, by simpa using he, fun j hj => by
  simpa using hn l[j] (List.mem_take_iff_getElem.2 ⟨j, by omega, rfl⟩)⟩
 unfold idxOf;rw [this]
theorem idx_none {l : List ByteArray} {v : ByteArray} (hn : idxUpto l v l.length) : idxOf l v = -1 := by
 have : l.findIdx? (fun x => decide (x = v)) = none := List.findIdx?_eq_none_iff.2 fun x hx => by
  simpa using hn x (by rwa [List.take_length])
 unfold idxOf;rw [this]
theorem bytes_beq {a b : ByteArray} : (a.toList == b.toList) = decide (a = b) := by
 by_cases h : a = b
 ·subst h; simp
 ·have : a.toList ≠ b.toList := fun e => h (toList_inj e);simp [h, this]
theorem index_texts (w : World) (B : Nat) (A : Option Addr) (c : Nat) (l : List ByteArray) (v : ByteArray) (hr : Reads w B A l) (hl : l.length <= 100000) :
 Calls Tryz.prog 49 #[.slice A l.length c, .string v] w fun e w' => e = .returned (.int .i64 (idxOf l v)) /\ w' = w := by
 have HR := lh hr;clear hr;go_enter Tryz.func49, Tryz.ntmps49
 go_wp2_with fail
 go_loopw [8] (fun i wr => ∃ k : Nat, i = .int .i64 k /\ k <= l.length /\ idxUpto l v k /\ wr = w) (fun i _ => l.length - (intOf i).toNat)
 case atStart => exact ⟨0, rfl, Nat.zero_le _, fun x hx => by simp at hx, rfl⟩
 case round =>
  obtain ⟨k, rfl, hk, hn, rfl⟩ := hrel;have HN := lh hn;clear hn;by_cases hlt : k < l.length
  ·obtain ⟨x, hx⟩ : ∃ x, l[k]? = some x := ⟨l[k], by simp [hlt]⟩
   have HX := lh hx;obtain ⟨ad, rfl, hb, hat⟩ := HR.out _ x hx;have h1 := hat 0 _ rfl
   have h2 : wr.cell? (ad.add (k * 1)) = some (.string x) := by
    have h3 : ((ad.add (k * Lies.size ByteArray)).add 0) = ad.add (k * 1) := by
     show ((ad.add (k * 1)).add 0) = _;unfold Addr.add; split <;> split <;> simp_all
    rw [<- h3]; exact h1
   have h4 : wr.cell? (ad.add k) = some (.string x) := by rw [<- h2, Nat.mul_one]
   clear hx hat h1;by_cases hv : x = v
   ·subst hv;have he : (x.toList == x.toList) = true := by simp
    have HI := lh (idx_here HN.out HX.out);go_wp2
    go_ret
    exact ⟨by rw [HI.out]; rfl, rfl⟩
   ·have he : (v.toList == x.toList) = false := by rw [bytes_beq]; exact decide_eq_false fun e => hv e.symm
    have HV := lh hv;clear hv;go_wp2
    go_roundw
    case rel =>
     refine ⟨k + 1, by go_num, by omega, fun y hy => ?_, by trivial⟩;rw [List.take_add_one, HX.out] at hy;rcases List.mem_append.1 hy with hy | hy
     ·exact HN.out y hy
     ·have : y = x := by simpa using hy
      rw [this]; exact HV.out
    case measure => simp [intOf]; omega
  ·obtain rfl : k = l.length := by omega
   have HI := lh (idx_none HN.out);go_wp2
   go_ret
   exact ⟨by rw [HI.out]; rfl, rfl⟩
def piecesB (s : ByteArray) : List ByteArray := (pieces s.toList).map mkStr
theorem splitB_pieces (s : ByteArray) : Lib.splitB ⟨#[32]⟩ 0 (min 3 (s.size + 1) - 1) s = piecesB s := by
 have h1 := Lib.splitB_data ⟨#[32]⟩ 0 (min 3 (s.size + 1) - 1) s;rw [<- ByteArray.toList_eq s] at h1;have h2 := pieces_split s.toList;rw [size_toList] at h2;have h3 : (Lib.splitB ⟨#[32]⟩ 0 (min 3 (s.size + 1) - 1) s).map (fun x => x.data.toList) = pieces s.toList := h1.trans h2;unfold piecesB;rw [<- h3, List.map_map];conv => lhs; rw [<- List.map_id (Lib.splitB ⟨#[32]⟩ 0 (min 3 (s.size + 1) - 1) s)]
 refine List.map_congr_left fun x _ => ?_;show x = mkStr x.data.toList;rw [<- ByteArray.toList_eq, mkStr_of]
theorem split_line (w : World) (s : ByteArray) (hs : s.size <= 100000) (hL : Laid w) : Calls Tryz.prog 23 #[.string s, .string ⟨#[32]⟩, .int .i64 3] w (NewList w 9 (piecesB s)) := by
 obtain ⟨m, hm⟩ := hL.max;have hle := Lib.splitB_length_le ⟨#[32]⟩ 0 (min 3 (s.size + 1) - 1) s;refine (strings_SplitN s ⟨#[32]⟩ 3 m w (by omega) hm (by decide) (by decide) (by decide)).mono ?_;rw [splitB_pieces] at hle ⊢;rintro e w' ⟨rfl, rfl⟩;have hN : (piecesB s).length <= min 3 (s.size + 1) := by omega
 refine ⟨some ⟨w.heap.size, 0, none⟩, _, rfl, own_take_drop (heap_alloc_new _ _) rfl hN (by unfold maxLen; omega) ?_ ?_, (Touch.refl _ w).alloc _, fun k hk => by simp [Value.ownBlock] at hk; omega⟩
 ·rw [Lib.cellsOf_size hN]; simp [Lies.size]
 ·unfold Lib.cellsOf
  have e : flat (piecesB s) = (piecesB s).map Value.string := by
   generalize piecesB s = l;induction l with
   | nil => rfl
   | cons x l ih => rw [List.map_cons, <- ih]; rfl
  rw [e];rw [show (piecesB s).length * Lies.size ByteArray = ((piecesB s).map Value.string).length by simp [Lies.size]];simp
theorem okText_le' {lo hi m : Nat} {s : ByteArray} (h : okText lo hi m s = true) : s.size <= m := by
 unfold okText at h;simp at h;omega
theorem okText_pos {lo hi m : Nat} {s : ByteArray} (h : okText lo hi m s = true) : 0 < s.size := by
 unfold okText at h;simp at h;omega
theorem ct_zero {x : Call} (h : callCode x = 0) : callText x = (mkStr (callLine x), 0) := by unfold callText; rw [if_neg (by simp [h])]
theorem ct_code {x : Call} (h : callCode x ≠ 0) : callText x = (noText, callCode x) := by unfold callText; rw [if_pos h]
theorem line_1 {x : Call} (k : Int) (p : ByteArray) (hk : x.kind = k) (h : k = 1 /\ p = ⟨#[109, 97, 107, 101, 32]⟩ \/ k = 2 /\ p = ⟨#[114, 101, 109, 111, 118, 101, 32]⟩ \/ k = 5 /\ p = ⟨#[114, 101, 97, 100, 32]⟩) : p ++ x.name = mkStr (callLine x) := by
 refine toList_inj ?_;rw [toList_cat, mkStr_toList];unfold callLine;rw [hk];rcases h with ⟨rfl, rfl⟩ | ⟨rfl, rfl⟩ | ⟨rfl, rfl⟩ <;> (rw [ByteArray.toList_eq ⟨_⟩]; simp [kindWord, wMake, wRemove, wRead])
theorem line_3 {x : Call} (hk : x.kind = 3) : (⟨#[114, 101, 110, 97, 109, 101, 32]⟩ : ByteArray) ++ x.name ++ ⟨#[32]⟩ ++ x.to_ = mkStr (callLine x) := by
 refine toList_inj ?_;rw [toList_cat, toList_cat, toList_cat, mkStr_toList, sp_toList];unfold callLine;rw [hk, ByteArray.toList_eq ⟨_⟩];simp [kindWord, wRename]
theorem line_4 {x : Call} (hk : x.kind = 4) : (⟨#[97, 112, 112, 101, 110, 100, 32]⟩ : ByteArray) ++ x.name ++ ⟨#[32]⟩ ++ x.text = mkStr (callLine x) := by
 refine toList_inj ?_;rw [toList_cat, toList_cat, toList_cat, mkStr_toList, sp_toList];unfold callLine;rw [hk, ByteArray.toList_eq ⟨_⟩];simp [kindWord, wAppend]
theorem line_6 {x : Call} (hk : x.kind = 6) : (⟨#[108, 105, 115, 116]⟩ : ByteArray) = mkStr (callLine x) := by
 refine toList_inj ?_;rw [mkStr_toList];unfold callLine;rw [hk, ByteArray.toList_eq ⟨_⟩];simp [kindWord, wList]
def CTPost (w : World) (x : Call) (e : Ending) (w' : World) : Prop := e = .returned (.tuple #[.string (callText x).1, .int .i64 (callText x).2]) /\ Ext w w'
theorem ref_callText (w : World) (x : Call) (hx : StrCall x) : Calls Tryz.prog 43 #[.agg x.cells] w (CTPost w x) := by
 have HST := lh hx;have hb : (w.alloc (.cells x.cells 66)).heap[w.heap.size]? = some (.cells x.cells 66 (0, 0)) := heap_alloc_new _ _;have HX := lh (show Ext w (w.alloc (.cells x.cells 66)) from (Touch.refl _ w).alloc _);clear hx;go_enter Tryz.func43, Tryz.ntmps43
 go_upto_region 1 with fail
 generalize w.alloc (.cells x.cells 66) = w1 at HX hb ⊢;generalize w.heap.size = b at hb ⊢;obtain ⟨n, hn⟩ : ∃ n, callCode x = n := ⟨_, rfl⟩
 have HN := lh hn;clear hn;go_wp2_with fail
 refine (ref_fault' w1 x n HN.out HST.out).mono ?_;rintro e w2 ⟨rfl, hx2⟩;have hb2 := hx2.blk hb id;have HX2 := lh (HX.out.trans hx2);clear hx2 hb;by_cases h0 : n = 0
 ·subst h0;have HCT := lh (ct_zero HN.out);have hkd := callCode_kind HN.out;have hform := callCode_form HN.out
  have hn5 : (x.name.size : Int) <= 5 := by
   by_cases h6 : x.kind = 6
   ·rw [hform.1 h6]; decide
   ·have := okText_le' (callCode_name HN.out h6); omega
  have ht5 : (x.to_.size : Int) <= 5 := by
   by_cases h3 : x.kind = 3
   ·have := okText_le' (callCode_to HN.out h3); omega
   ·rw [hform.2.1 h3]; decide
  have hx8 : (x.text.size : Int) <= 8 := by
   by_cases h4 : x.kind = 4
   ·have := okText_le' (callCode_text HN.out h4); omega
   ·rw [hform.2.2 h4]; decide
  clear hform;have h1 := (cell_of hb2 1).trans (Call.get1 x);have h2 := (cell_of hb2 2).trans (Call.get2 x);have h3 := (cell_of hb2 3).trans (Call.get3 x);obtain hk | hk | hk | hk | hk | hk : x.kind = 1 \/ x.kind = 2 \/ x.kind = 3 \/ x.kind = 4 \/ x.kind = 5 \/ x.kind = 6 := by omega
  ·skip
   clear hkd;have h0 := (cell_of hb2 0).trans (Call.get0 x);rw [hk] at h0;have HL := lh (line_1 1 _ hk (.inl ⟨rfl, rfl⟩));clear hk hb2;go_wp2
   go_ret2
   unfold CTPost;rw [HCT.out, <- HL.out];exact ⟨rfl, HX2.out⟩
  ·skip
   clear hkd;have h0 := (cell_of hb2 0).trans (Call.get0 x);rw [hk] at h0;have HL := lh (line_1 2 _ hk (.inr (.inl ⟨rfl, rfl⟩)));clear hk hb2;go_wp2
   go_ret2
   unfold CTPost;rw [HCT.out, <- HL.out];exact ⟨rfl, HX2.out⟩
  ·skip
   clear hkd;have h0 := (cell_of hb2 0).trans (Call.get0 x);rw [hk] at h0;have HL := lh (line_3 hk);clear hk hb2;go_wp2
   go_ret2
   unfold CTPost;rw [HCT.out, <- HL.out];exact ⟨rfl, HX2.out⟩
  ·skip
   clear hkd;have h0 := (cell_of hb2 0).trans (Call.get0 x);rw [hk] at h0;have HL := lh (line_4 hk);clear hk hb2;go_wp2
   go_ret2
   unfold CTPost;rw [HCT.out, <- HL.out];exact ⟨rfl, HX2.out⟩
  ·skip
   clear hkd;have h0 := (cell_of hb2 0).trans (Call.get0 x);rw [hk] at h0;have HL := lh (line_1 5 _ hk (.inr (.inr ⟨rfl, rfl⟩)));clear hk hb2;go_wp2
   go_ret2
   unfold CTPost;rw [HCT.out, <- HL.out];exact ⟨rfl, HX2.out⟩
  ·skip
   clear hkd;have h0 := (cell_of hb2 0).trans (Call.get0 x);rw [hk] at h0;have HL := lh (line_6 hk);clear hk hb2;go_wp2
   go_ret2
   unfold CTPost;rw [HCT.out, <- HL.out];exact ⟨rfl, HX2.out⟩
 ·have HCT := lh (ct_code (x := x) (by rw [HN.out]; exact h0));have hk' : (n == 0) = false := by simp [h0]
  have hk2 : (n != 0) = true := by simp [h0]
  clear h0 hb2;go_wp2
  go_ret2
  unfold CTPost;rw [HCT.out, HN.out];exact ⟨rfl, HX2.out⟩
theorem wpAnyH_moreL {P : Program} {ops : Array Oper} {Q : Exit -> Act -> World -> Prop} {md : Region.Mode} {S S' : World -> Prop} (hS : ∀ w, S' w -> S w) :
 ∀ (fuel : Nat) (listed : Array Bool) (a : Act) (w : World), wpAnyH P md ops Q S' fuel listed a w -> wpAnyH P md ops Q S fuel listed a w
 | 0, _, _, _, h => h
 | fuel + 1, _, _, _, h => ⟨h.1, fun i hi => wpOp_mono (fun a' w' h' => ⟨hS w' h'.1, wpAnyH_moreL hS fuel _ a' w' h'.2⟩) (h.2 i hi)⟩
theorem cell_text {w : World} {A : Option Addr} {l : List ByteArray} {k : Nat} {x : ByteArray} (h : Reads w w.heap.size A l) (hk : l[k]? = some x) : ∃ ad, A = some ad /\ ∀ w', Ext w w' -> w'.cell? (ad.add k) = some (.string x) := by
 obtain ⟨ad, e, hb, hat⟩ := h k x hk;refine ⟨ad, e, fun w' hx => ?_⟩;have hkb : (ad.add (k * Lies.size ByteArray)).block = ad.block := by unfold Addr.add; split <;> rfl
 have h1 : At w' (ad.add (k * Lies.size ByteArray)) x := hat.of_same (w' := w') (by rw [hkb]; exact hx.block _ hb id);have h2 := h1 0 _ rfl
 have h3 : ((ad.add (k * Lies.size ByteArray)).add 0) = ad.add k := by
  show ((ad.add (k * 1)).add 0) = _;unfold Addr.add; split <;> split <;> simp_all
 rw [<- h3]; exact h2
theorem own_text {w : World} {E : TypeId} {A : Option Addr} {n c : Nat} {l : List ByteArray} {k : Nat} {x : ByteArray} (h : Owns w E (.slice A n c) l) (hk : l[k]? = some x) : ∃ g, A = some ⟨g, 0, none⟩ /\ ∀ w', Ext w w' -> w'.cell? ⟨g, k, none⟩ = some (.string x) := by
 obtain ⟨ad, rfl, h1⟩ := cell_text h.reads hk;obtain ⟨g, e⟩ := h.some_form;cases e;refine ⟨g, rfl, fun w' hx => ?_⟩;have h2 := h1 w' hx;have h3 : (⟨g, 0, none⟩ : Addr).add k = ⟨g, k, none⟩ := by unfold Addr.add; split <;> simp_all
 rwa [h3] at h2
theorem join_len (xs : List ByteArray) : (Lib.join (xs.map (·.data.toList)) [32]).length = (joinSp xs).size := by
 rw [<- joinSp_eq]; simp [ByteArray.size]
theorem join2 (p x : ByteArray) : joinSp [p, x] = p ++ ⟨#[32]⟩ ++ x := rfl
theorem join3 (p x y : ByteArray) : joinSp [p, x, y] = p ++ ⟨#[32]⟩ ++ x ++ ⟨#[32]⟩ ++ y := rfl
theorem jline_1 {x : Call} (k : Int) (p : ByteArray) (hk : x.kind = k) (h : k = 1 /\ p = ⟨#[109, 97, 107, 101]⟩ \/ k = 2 /\ p = ⟨#[114, 101, 109, 111, 118, 101]⟩ \/ k = 5 /\ p = ⟨#[114, 101, 97, 100]⟩) : joinSp [p, x.name] = mkStr (callLine x) := by
 refine toList_inj ?_;rw [join2, toList_cat, toList_cat, mkStr_toList, sp_toList];unfold callLine;rw [hk];rcases h with ⟨rfl, rfl⟩ | ⟨rfl, rfl⟩ | ⟨rfl, rfl⟩ <;> (rw [ByteArray.toList_eq ⟨_⟩]; simp [kindWord, wMake, wRemove, wRead])
theorem jline_3 {x : Call} (hk : x.kind = 3) : joinSp [⟨#[114, 101, 110, 97, 109, 101]⟩, x.name, x.to_] = mkStr (callLine x) := by
 refine toList_inj ?_;rw [join3, toList_cat, toList_cat, toList_cat, toList_cat, mkStr_toList, sp_toList];unfold callLine;rw [hk, ByteArray.toList_eq ⟨_⟩];simp [kindWord, wRename]
theorem jline_4 {x : Call} (hk : x.kind = 4) : joinSp [⟨#[97, 112, 112, 101, 110, 100]⟩, x.name, x.text] = mkStr (callLine x) := by
 refine toList_inj ?_;rw [join3, toList_cat, toList_cat, toList_cat, toList_cat, mkStr_toList, sp_toList];unfold callLine;rw [hk, ByteArray.toList_eq ⟨_⟩];simp [kindWord, wAppend]
theorem line_small {x : Call} (h : callCode x = 0) : (mkStr (callLine x)).size <= 140737488355328 := by
 rw [mkStr_size];have hform := callCode_form h
 have hn : x.name.toList.length <= 5 := by
  rw [size_toList];by_cases h6 : x.kind = 6
  ·rw [hform.1 h6]; decide
  ·exact okText_le' (callCode_name h h6)
 have ht : x.to_.toList.length <= 5 := by
  rw [size_toList];by_cases h3 : x.kind = 3
  ·exact okText_le' (callCode_to h h3)
  ·rw [hform.2.1 h3]; decide
 have hx : x.text.toList.length <= 8 := by
  rw [size_toList];by_cases h4 : x.kind = 4
  ·exact okText_le' (callCode_text h h4)
  ·rw [hform.2.2 h4]; decide
 have hw : (kindWord x.kind).length <= 6 := by
  unfold kindWord;repeat' split
  all_goals decide
 unfold callLine;rw [List.length_append, List.length_append];have h1 : (if x.kind = 6 then [] else 32 :: x.name.toList).length <= 6 := by split <;> simp <;> omega
 have h2 : (if x.kind = 3 then 32 :: x.to_.toList else if x.kind = 4 then 32 :: x.text.toList else []).length <= 9 := by
  split
  ·simp; omega
  ·split <;> simp <;> omega
 omega
theorem line_call (w : World) (x : Call) (hx : StrCall x) : Calls Tryz.prog 95 #[.agg x.cells] w (CTPost w x) := by
 have HST := lh hx;have hb : (w.alloc (.cells x.cells 66)).heap[w.heap.size]? = some (.cells x.cells 66 (0, 0)) := heap_alloc_new _ _;have HX := lh (show Ext w (w.alloc (.cells x.cells 66)) from (Touch.refl _ w).alloc _);clear hx;go_enter Tryz.func95, Tryz.ntmps95
 go_upto_region 1 with fail
 generalize w.alloc (.cells x.cells 66) = w1 at HX hb ⊢;generalize w.heap.size = b at hb ⊢;obtain ⟨n, hn⟩ : ∃ n, callCode x = n := ⟨_, rfl⟩
 have HN := lh hn;clear hn;go_wp2_with fail
 refine (files_check' w1 x n HN.out HST.out).mono ?_;rintro e w2 ⟨rfl, hx2⟩;have hb2 := hx2.blk hb id;have HX2 := lh (HX.out.trans hx2);clear hx2 hb;by_cases h0 : n = 0
 ·subst h0;have HCT := lh (ct_zero HN.out);have hkd := callCode_kind HN.out;have HF := lh (callCode_form HN.out)
  have hn5 : (x.name.size : Int) <= 5 := by
   by_cases h6 : x.kind = 6
   ·rw [HF.out.1 h6]; decide
   ·have := okText_le' (callCode_name HN.out h6); omega
  have HNE := lh (show x.kind ≠ 6 -> x.name.toList.isEmpty = false from fun h6 => by
   have h1 := okText_pos (callCode_name HN.out h6);rw [<- size_toList] at h1;cases hl : x.name.toList with
   | nil => rw [hl] at h1; simp at h1
   | cons a l => rfl)
  obtain hk | hk | hk | hk | hk | hk : x.kind = 1 \/ x.kind = 2 \/ x.kind = 3 \/ x.kind = 4 \/ x.kind = 5 \/ x.kind = 6 := by omega
  ·skip
   clear hkd;have h0 := (cell_of hb2 0).trans (Call.get0 x);rw [hk] at h0;have HC := lh (show ∀ w', Ext w2 w' -> w'.cell? ⟨b, 0, none⟩ = some (.int .i64 1) from fun w' hx => by rw [<- hk]; exact (cell_of (hx.blk hb2 id) 0).trans (Call.get0 x));have HB2 := lh hb2;have HK := lh hk;clear hb2 hk;go_wp2_with fail
   refine wp_region_held_drew (S := fun w' => Ext w2 w') (by kernel_rfl) (Touch.drew (Touch.refl _ w2)) (fun hHeld => ?_);refine tK 1 ?_;try simp only [pS]
   refine tK 2 ?_ (hY := fun w' hw' => by
    have hh1 := HC.out w' hw';go_simp;try with_reducible rfl)
   try simp only [pS]
   refine tC 0 fun K hK => ?_;go_simp;go_at_call 50
   refine (line_words w2.drew).mono ?_;rintro e w3 ⟨A3, c3, rfl, ho3, hx3, _⟩;have X3 : Ext w2 w3 := (Touch.drew (Touch.refl _ w2)).trans hx3;obtain ⟨g3, rfl, hcw⟩ := own_text (k := 1) (x := ⟨#[109, 97, 107, 101]⟩) ho3 rfl;have HCW := lh hcw;have HX3 := lh X3;clear hx3 ho3 hcw h0;rw [show wordsL.length = 7 from rfl];refine hK.out _ _ X3 (fun hHeld => ?_);clear hK K;try simp only [pS]
   refine wpAnyH_moreL (S' := fun w' => Ext w3 w') (fun w' h => X3.trans h) _ _ _ _ ?_;clear hHeld X3;have hHeld : Ext w3 w3 := Touch.refl _ _;refine tK 3 ?_;try simp only [pS]
   refine tK 4 ?_ (hY := fun w' hw' => by
    have hh1 := HCW.out w' hw';go_simp;try with_reducible rfl)
   try simp only [pS]
   refine tC 5 fun K hK => ?_;go_simp;have X4 : Ext w3 (w3.alloc (.cells #[.string ⟨#[109, 97, 107, 101]⟩] 9)) := (Touch.refl _ w3).alloc _;refine hK.out _ _ X4 (fun hHeld => ?_);clear hK K;try simp only [pS]
   refine tK 6 ?_;try simp only [pS]
   refine tD ?_;clear hHeld;have HO4 := lh (show Owns (w3.alloc (.cells #[.string ⟨#[109, 97, 107, 101]⟩] 9)) 9 (.slice (some ⟨w3.heap.size, 0, none⟩) 1 1) [(⟨#[109, 97, 107, 101]⟩ : ByteArray)] from own_take_drop (heap_alloc_new _ _) rfl (by decide) (by decide) rfl rfl);have HX4 := lh (HX3.out.trans X4);have hg4 : w2.heap.size <= w3.heap.size := HX3.out.size;clear X4;generalize w3.alloc (.cells #[.string ⟨#[109, 97, 107, 101]⟩] 9) = w4 at HO4 HX4 ⊢;generalize w3.heap.size = g4 at HO4 hg4 ⊢;have h1 := (cell_of (HX4.out.blk HB2.out id) 1).trans (Call.get1 x);have he := HNE.out (by rw [HK.out]; decide)
   go_upto_region 7 with (
    at_builtin
    have t1 := HO4.out.ext ((Touch.refl _ w4).alloc (.cells #[.string x.name] 9));have t2 := reads_block (x := x.name) (b := w4.heap.size) (t := 9) (fr := (0, 0)) (heap_alloc_new w4 (.cells #[.string x.name] 9)) (w4.heap.size + 1) (by omega);refine wpList_append_own' (by rfl) (.tmp 20) (.tmp 23) 22 (by rfl) elemString Tryz.underlying22 (v := _) (l := [⟨#[109, 97, 107, 101]⟩]) (by rfl) t1 [x.name] (by rfl) 2 (by rfl) (by rfl) t2 (by simp) ?_;clear t1 t2;intro A5 c5 w5 hown5 hgrow5 hat5
    have HF5 := lh (show ∀ k, (Value.slice A5 2 c5).ownBlock = some k -> w2.heap.size <= k from fun k hk => by
     rcases hat5 with h | h
     ·rw [h] at hk; simp [Value.ownBlock] at hk; omega
     ·rw [h] at hk; injection hk with hk; have := (HX4.out.alloc (.cells #[.string x.name] 9)).size; omega)
    have HO5 := lh hown5;have HX5 := lh (show Ext w2 w5 from (HX4.out.alloc _).grown hgrow5 fun q hq => .inr (by simp [Value.ownBlock] at hq; omega));clear hown5 hgrow5 hat5)
   have h05 := HC.out w5 HX5.out;have h25 := (cell_of (HX5.out.blk HB2.out id) 2).trans (Call.get2 x);have h35 := (cell_of (HX5.out.blk HB2.out id) 3).trans (Call.get3 x);clear h1 he;go_wp2_with fail
   have hjl := join_len [⟨#[109, 97, 107, 101]⟩, x.name];rw [(jline_1 1 _ HK.out (.inl ⟨rfl, rfl⟩))] at hjl;refine (join_names _ _ _ _ [⟨#[109, 97, 107, 101]⟩, x.name] HO5.out (by simp) (by rw [hjl]; exact (line_small HN.out))).mono ?_;rintro e w6 ⟨rfl, hx6⟩;have HX6 := lh (HX2.out.trans (HX5.out.trans hx6));have HJ := lh (jline_1 1 _ HK.out (.inl ⟨rfl, rfl⟩));clear hjl hx6;go_wp2
   go_ret2
   unfold CTPost;rw [HCT.out, <- HJ.out];exact ⟨rfl, HX6.out⟩
  ·skip
   clear hkd;have h0 := (cell_of hb2 0).trans (Call.get0 x);rw [hk] at h0;have HC := lh (show ∀ w', Ext w2 w' -> w'.cell? ⟨b, 0, none⟩ = some (.int .i64 2) from fun w' hx => by rw [<- hk]; exact (cell_of (hx.blk hb2 id) 0).trans (Call.get0 x));have HB2 := lh hb2;have HK := lh hk;clear hb2 hk;go_wp2_with fail
   refine wp_region_held_drew (S := fun w' => Ext w2 w') (by kernel_rfl) (Touch.drew (Touch.refl _ w2)) (fun hHeld => ?_);refine tK 1 ?_;try simp only [pS]
   refine tK 2 ?_ (hY := fun w' hw' => by
    have hh1 := HC.out w' hw';go_simp;try with_reducible rfl)
   try simp only [pS]
   refine tC 0 fun K hK => ?_;go_simp;go_at_call 50
   refine (line_words w2.drew).mono ?_;rintro e w3 ⟨A3, c3, rfl, ho3, hx3, _⟩;have X3 : Ext w2 w3 := (Touch.drew (Touch.refl _ w2)).trans hx3;obtain ⟨g3, rfl, hcw⟩ := own_text (k := 2) (x := ⟨#[114, 101, 109, 111, 118, 101]⟩) ho3 rfl;have HCW := lh hcw;have HX3 := lh X3;clear hx3 ho3 hcw h0;rw [show wordsL.length = 7 from rfl];refine hK.out _ _ X3 (fun hHeld => ?_);clear hK K;try simp only [pS]
   refine wpAnyH_moreL (S' := fun w' => Ext w3 w') (fun w' h => X3.trans h) _ _ _ _ ?_;clear hHeld X3;have hHeld : Ext w3 w3 := Touch.refl _ _;refine tK 3 ?_;try simp only [pS]
   refine tK 4 ?_ (hY := fun w' hw' => by
    have hh1 := HCW.out w' hw';go_simp;try with_reducible rfl)
   try simp only [pS]
   refine tC 5 fun K hK => ?_;go_simp;have X4 : Ext w3 (w3.alloc (.cells #[.string ⟨#[114, 101, 109, 111, 118, 101]⟩] 9)) := (Touch.refl _ w3).alloc _;refine hK.out _ _ X4 (fun hHeld => ?_);clear hK K;try simp only [pS]
   refine tK 6 ?_;try simp only [pS]
   refine tD ?_;clear hHeld;have HO4 := lh (show Owns (w3.alloc (.cells #[.string ⟨#[114, 101, 109, 111, 118, 101]⟩] 9)) 9 (.slice (some ⟨w3.heap.size, 0, none⟩) 1 1) [(⟨#[114, 101, 109, 111, 118, 101]⟩ : ByteArray)] from own_take_drop (heap_alloc_new _ _) rfl (by decide) (by decide) rfl rfl);have HX4 := lh (HX3.out.trans X4);have hg4 : w2.heap.size <= w3.heap.size := HX3.out.size;clear X4;generalize w3.alloc (.cells #[.string ⟨#[114, 101, 109, 111, 118, 101]⟩] 9) = w4 at HO4 HX4 ⊢;generalize w3.heap.size = g4 at HO4 hg4 ⊢;have h1 := (cell_of (HX4.out.blk HB2.out id) 1).trans (Call.get1 x);have he := HNE.out (by rw [HK.out]; decide)
   go_upto_region 7 with (
    at_builtin
    have t1 := HO4.out.ext ((Touch.refl _ w4).alloc (.cells #[.string x.name] 9));have t2 := reads_block (x := x.name) (b := w4.heap.size) (t := 9) (fr := (0, 0)) (heap_alloc_new w4 (.cells #[.string x.name] 9)) (w4.heap.size + 1) (by omega);refine wpList_append_own' (by rfl) (.tmp 20) (.tmp 23) 22 (by rfl) elemString Tryz.underlying22 (v := _) (l := [⟨#[114, 101, 109, 111, 118, 101]⟩]) (by rfl) t1 [x.name] (by rfl) 2 (by rfl) (by rfl) t2 (by simp) ?_;clear t1 t2;intro A5 c5 w5 hown5 hgrow5 hat5
    have HF5 := lh (show ∀ k, (Value.slice A5 2 c5).ownBlock = some k -> w2.heap.size <= k from fun k hk => by
     rcases hat5 with h | h
     ·rw [h] at hk; simp [Value.ownBlock] at hk; omega
     ·rw [h] at hk; injection hk with hk; have := (HX4.out.alloc (.cells #[.string x.name] 9)).size; omega)
    have HO5 := lh hown5;have HX5 := lh (show Ext w2 w5 from (HX4.out.alloc _).grown hgrow5 fun q hq => .inr (by simp [Value.ownBlock] at hq; omega));clear hown5 hgrow5 hat5)
   have h05 := HC.out w5 HX5.out;have h25 := (cell_of (HX5.out.blk HB2.out id) 2).trans (Call.get2 x);have h35 := (cell_of (HX5.out.blk HB2.out id) 3).trans (Call.get3 x);clear h1 he;go_wp2_with fail
   have hjl := join_len [⟨#[114, 101, 109, 111, 118, 101]⟩, x.name];rw [(jline_1 2 _ HK.out (.inr (.inl ⟨rfl, rfl⟩)))] at hjl;refine (join_names _ _ _ _ [⟨#[114, 101, 109, 111, 118, 101]⟩, x.name] HO5.out (by simp) (by rw [hjl]; exact (line_small HN.out))).mono ?_;rintro e w6 ⟨rfl, hx6⟩;have HX6 := lh (HX2.out.trans (HX5.out.trans hx6));have HJ := lh (jline_1 2 _ HK.out (.inr (.inl ⟨rfl, rfl⟩)));clear hjl hx6;go_wp2
   go_ret2
   unfold CTPost;rw [HCT.out, <- HJ.out];exact ⟨rfl, HX6.out⟩
  ·skip
   clear hkd;have h0 := (cell_of hb2 0).trans (Call.get0 x);rw [hk] at h0;have HC := lh (show ∀ w', Ext w2 w' -> w'.cell? ⟨b, 0, none⟩ = some (.int .i64 3) from fun w' hx => by rw [<- hk]; exact (cell_of (hx.blk hb2 id) 0).trans (Call.get0 x));have HB2 := lh hb2;have HK := lh hk;clear hb2 hk;go_wp2_with fail
   refine wp_region_held_drew (S := fun w' => Ext w2 w') (by kernel_rfl) (Touch.drew (Touch.refl _ w2)) (fun hHeld => ?_);refine tK 1 ?_;try simp only [pS]
   refine tK 2 ?_ (hY := fun w' hw' => by
    have hh1 := HC.out w' hw';go_simp;try with_reducible rfl)
   try simp only [pS]
   refine tC 0 fun K hK => ?_;go_simp;go_at_call 50
   refine (line_words w2.drew).mono ?_;rintro e w3 ⟨A3, c3, rfl, ho3, hx3, _⟩;have X3 : Ext w2 w3 := (Touch.drew (Touch.refl _ w2)).trans hx3;obtain ⟨g3, rfl, hcw⟩ := own_text (k := 3) (x := ⟨#[114, 101, 110, 97, 109, 101]⟩) ho3 rfl;have HCW := lh hcw;have HX3 := lh X3;clear hx3 ho3 hcw h0;rw [show wordsL.length = 7 from rfl];refine hK.out _ _ X3 (fun hHeld => ?_);clear hK K;try simp only [pS]
   refine wpAnyH_moreL (S' := fun w' => Ext w3 w') (fun w' h => X3.trans h) _ _ _ _ ?_;clear hHeld X3;have hHeld : Ext w3 w3 := Touch.refl _ _;refine tK 3 ?_;try simp only [pS]
   refine tK 4 ?_ (hY := fun w' hw' => by
    have hh1 := HCW.out w' hw';go_simp;try with_reducible rfl)
   try simp only [pS]
   refine tC 5 fun K hK => ?_;go_simp;have X4 : Ext w3 (w3.alloc (.cells #[.string ⟨#[114, 101, 110, 97, 109, 101]⟩] 9)) := (Touch.refl _ w3).alloc _;refine hK.out _ _ X4 (fun hHeld => ?_);clear hK K;try simp only [pS]
   refine tK 6 ?_;try simp only [pS]
   refine tD ?_;clear hHeld;have HO4 := lh (show Owns (w3.alloc (.cells #[.string ⟨#[114, 101, 110, 97, 109, 101]⟩] 9)) 9 (.slice (some ⟨w3.heap.size, 0, none⟩) 1 1) [(⟨#[114, 101, 110, 97, 109, 101]⟩ : ByteArray)] from own_take_drop (heap_alloc_new _ _) rfl (by decide) (by decide) rfl rfl);have HX4 := lh (HX3.out.trans X4);have hg4 : w2.heap.size <= w3.heap.size := HX3.out.size;clear X4;generalize w3.alloc (.cells #[.string ⟨#[114, 101, 110, 97, 109, 101]⟩] 9) = w4 at HO4 HX4 ⊢;generalize w3.heap.size = g4 at HO4 hg4 ⊢;have h1 := (cell_of (HX4.out.blk HB2.out id) 1).trans (Call.get1 x);have he := HNE.out (by rw [HK.out]; decide)
   go_upto_region 7 with (
    at_builtin
    have t1 := HO4.out.ext ((Touch.refl _ w4).alloc (.cells #[.string x.name] 9));have t2 := reads_block (x := x.name) (b := w4.heap.size) (t := 9) (fr := (0, 0)) (heap_alloc_new w4 (.cells #[.string x.name] 9)) (w4.heap.size + 1) (by omega);refine wpList_append_own' (by rfl) (.tmp 20) (.tmp 23) 22 (by rfl) elemString Tryz.underlying22 (v := _) (l := [⟨#[114, 101, 110, 97, 109, 101]⟩]) (by rfl) t1 [x.name] (by rfl) 2 (by rfl) (by rfl) t2 (by simp) ?_;clear t1 t2;intro A5 c5 w5 hown5 hgrow5 hat5
    have HF5 := lh (show ∀ k, (Value.slice A5 2 c5).ownBlock = some k -> w2.heap.size <= k from fun k hk => by
     rcases hat5 with h | h
     ·rw [h] at hk; simp [Value.ownBlock] at hk; omega
     ·rw [h] at hk; injection hk with hk; have := (HX4.out.alloc (.cells #[.string x.name] 9)).size; omega)
    have HO5 := lh hown5;have HX5 := lh (show Ext w2 w5 from (HX4.out.alloc _).grown hgrow5 fun q hq => .inr (by simp [Value.ownBlock] at hq; omega));clear hown5 hgrow5 hat5)
   have h05 := HC.out w5 HX5.out;have h25 := (cell_of (HX5.out.blk HB2.out id) 2).trans (Call.get2 x);have h35 := (cell_of (HX5.out.blk HB2.out id) 3).trans (Call.get3 x);clear h1 he
   go_upto_region 12 with (
    at_builtin
    have t1 := HO5.out.ext ((Touch.refl _ w5).alloc (.cells #[.string x.to_] 9));have t2 := reads_block (x := x.to_) (b := w5.heap.size) (t := 9) (fr := (0, 0)) (heap_alloc_new w5 (.cells #[.string x.to_] 9)) (w5.heap.size + 1) (by omega);refine wpList_append_own' (by rfl) (.tmp 29) (.tmp 32) 22 (by rfl) elemString Tryz.underlying22 (v := _) (l := [⟨#[114, 101, 110, 97, 109, 101]⟩] ++ [x.name]) (by rfl) t1 [x.to_] (by rfl) 3 (by rfl) (by rfl) t2 (by simp) ?_;clear t1 t2;intro A7 c7 w7 hown7 hgrow7 hat7;have HO7 := lh hown7;have HX7 := lh (show Ext w2 w7 from (HX5.out.alloc _).grown hgrow7 fun q hq => .inr (HF5.out q hq));clear hown7 hgrow7 hat7)
   go_wp2_with fail
   have hjl := join_len [⟨#[114, 101, 110, 97, 109, 101]⟩, x.name, x.to_];rw [(jline_3 HK.out)] at hjl;refine (join_names _ _ _ _ [⟨#[114, 101, 110, 97, 109, 101]⟩, x.name, x.to_] HO7.out (by simp) (by rw [hjl]; exact (line_small HN.out))).mono ?_;rintro e w6 ⟨rfl, hx6⟩;have HX6 := lh (HX2.out.trans (HX7.out.trans hx6));have HJ := lh (jline_3 HK.out);clear hjl hx6;go_wp2
   go_ret2
   unfold CTPost;rw [HCT.out, <- HJ.out];exact ⟨rfl, HX6.out⟩
  ·skip
   clear hkd;have h0 := (cell_of hb2 0).trans (Call.get0 x);rw [hk] at h0;have HC := lh (show ∀ w', Ext w2 w' -> w'.cell? ⟨b, 0, none⟩ = some (.int .i64 4) from fun w' hx => by rw [<- hk]; exact (cell_of (hx.blk hb2 id) 0).trans (Call.get0 x));have HB2 := lh hb2;have HK := lh hk;clear hb2 hk;go_wp2_with fail
   refine wp_region_held_drew (S := fun w' => Ext w2 w') (by kernel_rfl) (Touch.drew (Touch.refl _ w2)) (fun hHeld => ?_);refine tK 1 ?_;try simp only [pS]
   refine tK 2 ?_ (hY := fun w' hw' => by
    have hh1 := HC.out w' hw';go_simp;try with_reducible rfl)
   try simp only [pS]
   refine tC 0 fun K hK => ?_;go_simp;go_at_call 50
   refine (line_words w2.drew).mono ?_;rintro e w3 ⟨A3, c3, rfl, ho3, hx3, _⟩;have X3 : Ext w2 w3 := (Touch.drew (Touch.refl _ w2)).trans hx3;obtain ⟨g3, rfl, hcw⟩ := own_text (k := 4) (x := ⟨#[97, 112, 112, 101, 110, 100]⟩) ho3 rfl;have HCW := lh hcw;have HX3 := lh X3;clear hx3 ho3 hcw h0;rw [show wordsL.length = 7 from rfl];refine hK.out _ _ X3 (fun hHeld => ?_);clear hK K;try simp only [pS]
   refine wpAnyH_moreL (S' := fun w' => Ext w3 w') (fun w' h => X3.trans h) _ _ _ _ ?_;clear hHeld X3;have hHeld : Ext w3 w3 := Touch.refl _ _;refine tK 3 ?_;try simp only [pS]
   refine tK 4 ?_ (hY := fun w' hw' => by
    have hh1 := HCW.out w' hw';go_simp;try with_reducible rfl)
   try simp only [pS]
   refine tC 5 fun K hK => ?_;go_simp;have X4 : Ext w3 (w3.alloc (.cells #[.string ⟨#[97, 112, 112, 101, 110, 100]⟩] 9)) := (Touch.refl _ w3).alloc _;refine hK.out _ _ X4 (fun hHeld => ?_);clear hK K;try simp only [pS]
   refine tK 6 ?_;try simp only [pS]
   refine tD ?_;clear hHeld;have HO4 := lh (show Owns (w3.alloc (.cells #[.string ⟨#[97, 112, 112, 101, 110, 100]⟩] 9)) 9 (.slice (some ⟨w3.heap.size, 0, none⟩) 1 1) [(⟨#[97, 112, 112, 101, 110, 100]⟩ : ByteArray)] from own_take_drop (heap_alloc_new _ _) rfl (by decide) (by decide) rfl rfl);have HX4 := lh (HX3.out.trans X4);have hg4 : w2.heap.size <= w3.heap.size := HX3.out.size;clear X4;generalize w3.alloc (.cells #[.string ⟨#[97, 112, 112, 101, 110, 100]⟩] 9) = w4 at HO4 HX4 ⊢;generalize w3.heap.size = g4 at HO4 hg4 ⊢;have h1 := (cell_of (HX4.out.blk HB2.out id) 1).trans (Call.get1 x);have he := HNE.out (by rw [HK.out]; decide)
   go_upto_region 7 with (
    at_builtin
    have t1 := HO4.out.ext ((Touch.refl _ w4).alloc (.cells #[.string x.name] 9));have t2 := reads_block (x := x.name) (b := w4.heap.size) (t := 9) (fr := (0, 0)) (heap_alloc_new w4 (.cells #[.string x.name] 9)) (w4.heap.size + 1) (by omega);refine wpList_append_own' (by rfl) (.tmp 20) (.tmp 23) 22 (by rfl) elemString Tryz.underlying22 (v := _) (l := [⟨#[97, 112, 112, 101, 110, 100]⟩]) (by rfl) t1 [x.name] (by rfl) 2 (by rfl) (by rfl) t2 (by simp) ?_;clear t1 t2;intro A5 c5 w5 hown5 hgrow5 hat5
    have HF5 := lh (show ∀ k, (Value.slice A5 2 c5).ownBlock = some k -> w2.heap.size <= k from fun k hk => by
     rcases hat5 with h | h
     ·rw [h] at hk; simp [Value.ownBlock] at hk; omega
     ·rw [h] at hk; injection hk with hk; have := (HX4.out.alloc (.cells #[.string x.name] 9)).size; omega)
    have HO5 := lh hown5;have HX5 := lh (show Ext w2 w5 from (HX4.out.alloc _).grown hgrow5 fun q hq => .inr (by simp [Value.ownBlock] at hq; omega));clear hown5 hgrow5 hat5)
   have h05 := HC.out w5 HX5.out;have h25 := (cell_of (HX5.out.blk HB2.out id) 2).trans (Call.get2 x);have h35 := (cell_of (HX5.out.blk HB2.out id) 3).trans (Call.get3 x);clear h1 he
   go_upto_region 12 with (
    at_builtin
    have t1 := HO5.out.ext ((Touch.refl _ w5).alloc (.cells #[.string x.text] 9));have t2 := reads_block (x := x.text) (b := w5.heap.size) (t := 9) (fr := (0, 0)) (heap_alloc_new w5 (.cells #[.string x.text] 9)) (w5.heap.size + 1) (by omega);refine wpList_append_own' (by rfl) (.tmp 36) (.tmp 39) 22 (by rfl) elemString Tryz.underlying22 (v := _) (l := [⟨#[97, 112, 112, 101, 110, 100]⟩] ++ [x.name]) (by rfl) t1 [x.text] (by rfl) 3 (by rfl) (by rfl) t2 (by simp) ?_;clear t1 t2;intro A7 c7 w7 hown7 hgrow7 hat7;have HO7 := lh hown7;have HX7 := lh (show Ext w2 w7 from (HX5.out.alloc _).grown hgrow7 fun q hq => .inr (HF5.out q hq));clear hown7 hgrow7 hat7)
   go_wp2_with fail
   have hjl := join_len [⟨#[97, 112, 112, 101, 110, 100]⟩, x.name, x.text];rw [(jline_4 HK.out)] at hjl;refine (join_names _ _ _ _ [⟨#[97, 112, 112, 101, 110, 100]⟩, x.name, x.text] HO7.out (by simp) (by rw [hjl]; exact (line_small HN.out))).mono ?_;rintro e w6 ⟨rfl, hx6⟩;have HX6 := lh (HX2.out.trans (HX7.out.trans hx6));have HJ := lh (jline_4 HK.out);clear hjl hx6;go_wp2
   go_ret2
   unfold CTPost;rw [HCT.out, <- HJ.out];exact ⟨rfl, HX6.out⟩
  ·skip
   clear hkd;have h0 := (cell_of hb2 0).trans (Call.get0 x);rw [hk] at h0;have HC := lh (show ∀ w', Ext w2 w' -> w'.cell? ⟨b, 0, none⟩ = some (.int .i64 5) from fun w' hx => by rw [<- hk]; exact (cell_of (hx.blk hb2 id) 0).trans (Call.get0 x));have HB2 := lh hb2;have HK := lh hk;clear hb2 hk;go_wp2_with fail
   refine wp_region_held_drew (S := fun w' => Ext w2 w') (by kernel_rfl) (Touch.drew (Touch.refl _ w2)) (fun hHeld => ?_);refine tK 1 ?_;try simp only [pS]
   refine tK 2 ?_ (hY := fun w' hw' => by
    have hh1 := HC.out w' hw';go_simp;try with_reducible rfl)
   try simp only [pS]
   refine tC 0 fun K hK => ?_;go_simp;go_at_call 50
   refine (line_words w2.drew).mono ?_;rintro e w3 ⟨A3, c3, rfl, ho3, hx3, _⟩;have X3 : Ext w2 w3 := (Touch.drew (Touch.refl _ w2)).trans hx3;obtain ⟨g3, rfl, hcw⟩ := own_text (k := 5) (x := ⟨#[114, 101, 97, 100]⟩) ho3 rfl;have HCW := lh hcw;have HX3 := lh X3;clear hx3 ho3 hcw h0;rw [show wordsL.length = 7 from rfl];refine hK.out _ _ X3 (fun hHeld => ?_);clear hK K;try simp only [pS]
   refine wpAnyH_moreL (S' := fun w' => Ext w3 w') (fun w' h => X3.trans h) _ _ _ _ ?_;clear hHeld X3;have hHeld : Ext w3 w3 := Touch.refl _ _;refine tK 3 ?_;try simp only [pS]
   refine tK 4 ?_ (hY := fun w' hw' => by
    have hh1 := HCW.out w' hw';go_simp;try with_reducible rfl)
   try simp only [pS]
   refine tC 5 fun K hK => ?_;go_simp;have X4 : Ext w3 (w3.alloc (.cells #[.string ⟨#[114, 101, 97, 100]⟩] 9)) := (Touch.refl _ w3).alloc _;refine hK.out _ _ X4 (fun hHeld => ?_);clear hK K;try simp only [pS]
   refine tK 6 ?_;try simp only [pS]
   refine tD ?_;clear hHeld;have HO4 := lh (show Owns (w3.alloc (.cells #[.string ⟨#[114, 101, 97, 100]⟩] 9)) 9 (.slice (some ⟨w3.heap.size, 0, none⟩) 1 1) [(⟨#[114, 101, 97, 100]⟩ : ByteArray)] from own_take_drop (heap_alloc_new _ _) rfl (by decide) (by decide) rfl rfl);have HX4 := lh (HX3.out.trans X4);have hg4 : w2.heap.size <= w3.heap.size := HX3.out.size;clear X4;generalize w3.alloc (.cells #[.string ⟨#[114, 101, 97, 100]⟩] 9) = w4 at HO4 HX4 ⊢;generalize w3.heap.size = g4 at HO4 hg4 ⊢;have h1 := (cell_of (HX4.out.blk HB2.out id) 1).trans (Call.get1 x);have he := HNE.out (by rw [HK.out]; decide)
   go_upto_region 7 with (
    at_builtin
    have t1 := HO4.out.ext ((Touch.refl _ w4).alloc (.cells #[.string x.name] 9));have t2 := reads_block (x := x.name) (b := w4.heap.size) (t := 9) (fr := (0, 0)) (heap_alloc_new w4 (.cells #[.string x.name] 9)) (w4.heap.size + 1) (by omega);refine wpList_append_own' (by rfl) (.tmp 20) (.tmp 23) 22 (by rfl) elemString Tryz.underlying22 (v := _) (l := [⟨#[114, 101, 97, 100]⟩]) (by rfl) t1 [x.name] (by rfl) 2 (by rfl) (by rfl) t2 (by simp) ?_;clear t1 t2;intro A5 c5 w5 hown5 hgrow5 hat5
    have HF5 := lh (show ∀ k, (Value.slice A5 2 c5).ownBlock = some k -> w2.heap.size <= k from fun k hk => by
     rcases hat5 with h | h
     ·rw [h] at hk; simp [Value.ownBlock] at hk; omega
     ·rw [h] at hk; injection hk with hk; have := (HX4.out.alloc (.cells #[.string x.name] 9)).size; omega)
    have HO5 := lh hown5;have HX5 := lh (show Ext w2 w5 from (HX4.out.alloc _).grown hgrow5 fun q hq => .inr (by simp [Value.ownBlock] at hq; omega));clear hown5 hgrow5 hat5)
   have h05 := HC.out w5 HX5.out;have h25 := (cell_of (HX5.out.blk HB2.out id) 2).trans (Call.get2 x);have h35 := (cell_of (HX5.out.blk HB2.out id) 3).trans (Call.get3 x);clear h1 he;go_wp2_with fail
   have hjl := join_len [⟨#[114, 101, 97, 100]⟩, x.name];rw [(jline_1 5 _ HK.out (.inr (.inr ⟨rfl, rfl⟩)))] at hjl;refine (join_names _ _ _ _ [⟨#[114, 101, 97, 100]⟩, x.name] HO5.out (by simp) (by rw [hjl]; exact (line_small HN.out))).mono ?_;rintro e w6 ⟨rfl, hx6⟩;have HX6 := lh (HX2.out.trans (HX5.out.trans hx6));have HJ := lh (jline_1 5 _ HK.out (.inr (.inr ⟨rfl, rfl⟩)));clear hjl hx6;go_wp2
   go_ret2
   unfold CTPost;rw [HCT.out, <- HJ.out];exact ⟨rfl, HX6.out⟩
  ·skip
   clear hkd;have he : x.name.toList.isEmpty = true := by rw [HF.out.1 hk, noText_toList]; rfl
   have h0 := (cell_of hb2 0).trans (Call.get0 x);rw [hk] at h0;have HC := lh (show ∀ w', Ext w2 w' -> w'.cell? ⟨b, 0, none⟩ = some (.int .i64 6) from fun w' hx => by rw [<- hk]; exact (cell_of (hx.blk hb2 id) 0).trans (Call.get0 x));have HB2 := lh hb2;have HK := lh hk;clear hb2 hk;go_wp2_with fail
   refine wp_region_held_drew (S := fun w' => Ext w2 w') (by kernel_rfl) (Touch.drew (Touch.refl _ w2)) (fun hHeld => ?_);refine tK 1 ?_;try simp only [pS]
   refine tK 2 ?_ (hY := fun w' hw' => by
    have hh1 := HC.out w' hw';go_simp;try with_reducible rfl)
   try simp only [pS]
   refine tC 0 fun K hK => ?_;go_simp;go_at_call 50
   refine (line_words w2.drew).mono ?_;rintro e w3 ⟨A3, c3, rfl, ho3, hx3, _⟩;have X3 : Ext w2 w3 := (Touch.drew (Touch.refl _ w2)).trans hx3;obtain ⟨g3, rfl, hcw⟩ := own_text (k := 6) (x := ⟨#[108, 105, 115, 116]⟩) ho3 rfl;have HCW := lh hcw;have HX3 := lh X3;clear hx3 ho3 hcw h0;rw [show wordsL.length = 7 from rfl];refine hK.out _ _ X3 (fun hHeld => ?_);clear hK K;try simp only [pS]
   refine wpAnyH_moreL (S' := fun w' => Ext w3 w') (fun w' h => X3.trans h) _ _ _ _ ?_;clear hHeld X3;have hHeld : Ext w3 w3 := Touch.refl _ _;refine tK 3 ?_;try simp only [pS]
   refine tK 4 ?_ (hY := fun w' hw' => by
    have hh1 := HCW.out w' hw';go_simp;try with_reducible rfl)
   try simp only [pS]
   refine tC 5 fun K hK => ?_;go_simp;have X4 : Ext w3 (w3.alloc (.cells #[.string ⟨#[108, 105, 115, 116]⟩] 9)) := (Touch.refl _ w3).alloc _;refine hK.out _ _ X4 (fun hHeld => ?_);clear hK K;try simp only [pS]
   refine tK 6 ?_;try simp only [pS]
   refine tD ?_;clear hHeld;have HO4 := lh (show Owns (w3.alloc (.cells #[.string ⟨#[108, 105, 115, 116]⟩] 9)) 9 (.slice (some ⟨w3.heap.size, 0, none⟩) 1 1) [(⟨#[108, 105, 115, 116]⟩ : ByteArray)] from own_take_drop (heap_alloc_new _ _) rfl (by decide) (by decide) rfl rfl);have HX4 := lh (HX3.out.trans X4);have hg4 : w2.heap.size <= w3.heap.size := HX3.out.size;clear X4;generalize w3.alloc (.cells #[.string ⟨#[108, 105, 115, 116]⟩] 9) = w4 at HO4 HX4 ⊢;generalize w3.heap.size = g4 at HO4 hg4 ⊢;have h1 := (cell_of (HX4.out.blk HB2.out id) 1).trans (Call.get1 x);have h04 := HC.out w4 HX4.out;go_upto_region 12 with fail
   go_wp2_with fail
   have hjl := join_len [⟨#[108, 105, 115, 116]⟩];rw [(show joinSp [⟨#[108, 105, 115, 116]⟩] = mkStr (callLine x) from line_6 HK.out)] at hjl;refine (join_names _ _ _ _ [⟨#[108, 105, 115, 116]⟩] HO4.out (by simp) (by rw [hjl]; exact (line_small HN.out))).mono ?_;rintro e w6 ⟨rfl, hx6⟩;have HX6 := lh (HX2.out.trans (HX4.out.trans hx6));have HJ := lh (show joinSp [⟨#[108, 105, 115, 116]⟩] = mkStr (callLine x) from line_6 HK.out);clear hjl hx6;go_wp2
   go_ret2
   unfold CTPost;rw [HCT.out, <- HJ.out];exact ⟨rfl, HX6.out⟩
 ·have HCT := lh (ct_code (x := x) (by rw [HN.out]; exact h0));have hk' : (n == 0) = false := by simp [h0]
  have hk2 : (n != 0) = true := by simp [h0]
  clear h0 hb2;go_wp2
  go_ret2
  unfold CTPost;rw [HCT.out, HN.out];exact ⟨rfl, HX2.out⟩
theorem piecesB_len (s : ByteArray) : (piecesB s).length = if (wordOf s.toList).2.2 = true then (if (wordOf (wordOf s.toList).2.1).2.2 = true then 3 else 2) else 1 := by
 unfold piecesB;rw [List.length_map, pieces_len]
theorem piecesB_at (s : ByteArray) {k : Nat} {x : List UInt8} (h : (pieces s.toList)[k]? = some x) : (piecesB s)[k]? = some (mkStr x) := by
 unfold piecesB;rw [List.getElem?_map, h];rfl
theorem cell_lt {w : World} {g o : Nat} {v : Value} (h : w.cell? ⟨g, o, none⟩ = some v) : g < w.heap.size := by
 rcases Nat.lt_or_ge g w.heap.size with h2 | h2
 ·exact h2
 ·unfold World.cell? at h;simp [Array.getElem?_eq_none h2] at h
theorem cell_other {w : World} {g b o o' : Nat} {v u : Value} (h : w.cell? ⟨g, o, none⟩ = some u) (hn : g ≠ b) : (w.setCell ⟨b, o', none⟩ v).cell? ⟨g, o, none⟩ = some u := by
 unfold World.cell? at h ⊢;rw [show (w.setCell ⟨b, o', none⟩ v).heap[(⟨g, o, none⟩ : Addr).block]? = w.heap[(⟨g, o, none⟩ : Addr).block]? from heap_setCell_other _ _ _ _ hn];exact h
theorem callOf_yes {s : List UInt8} {c : Call} (h : parsed s = some c) (hc : callCode c = 0) : callOf s = (c, 0) := by
 unfold callOf;rw [h];simp [hc]
theorem callOf_no {s : List UInt8} {c : Call} (h : parsed s = some c) (hc : callCode c ≠ 0) : callOf s = (Call.zero, callCode c) := by
 unfold callOf;rw [h];simp [hc]
theorem wfst_le (s : List UInt8) : (wordOf s).1.length <= s.length := (List.takeWhile_prefix _).length_le
theorem wsnd_le (s : List UInt8) : (wordOf s).2.1.length <= s.length := by
 show ((s.dropWhile _).tail).length <= _;have h := (List.dropWhile_suffix (l := s) (fun b => b != 32)).length_le;rw [List.length_tail];omega
theorem p1_le {s : ByteArray} (hs : s.size <= 100000) : (mkStr (wordOf (wordOf s.toList).2.1).1).size <= 140737488351232 := by
 have h1 := wfst_le (wordOf s.toList).2.1;have h2 := wsnd_le s.toList;rw [mkStr_size];rw [size_toList] at h2;omega
theorem p2_le {s : ByteArray} (hs : s.size <= 100000) : (mkStr (wordOf (wordOf s.toList).2.1).2.1).size <= 140737488351232 := by
 have h1 := wsnd_le (wordOf s.toList).2.1;have h2 := wsnd_le s.toList;rw [mkStr_size];rw [size_toList] at h2;omega
theorem row_end {w w4 : World} {b : Nat} {x y : Call} {T : TypeId} (hx : Ext w w4) (hb : w4.heap[b]? = some (.cells y.cells T (0, 0))) (hg : w.heap.size <= b) :
 Ext w (w4.setRow b x.cells) /\ (w4.setRow b x.cells).heap[b]? = some (.cells x.cells T (0, 0)) := ⟨hx.setRow (.inr hg) _, by rw [heap_setRow_map, hb]; rfl⟩
theorem setCell_blk {w : World} {g : Nat} {cs : Array Value} {t : TypeId} {fr : Nat × Nat} (h : w.heap[g]? = some (.cells cs t fr)) (o : Nat) (v : Value) : (w.setCell ⟨g, o, none⟩ v).heap[g]? = some (.cells (cs.setIfInBounds o v) t fr) := by
 rw [heap_setCell_map, h];rfl
def ParsePost (w : World) (s : ByteArray) (e : Ending) (w' : World) : Prop := e = .returned (.tuple #[.agg (callOf s.toList).1.cells, .int .i64 (callOf s.toList).2]) /\ Ext w w'
theorem line_parse (w : World) (s : ByteArray) (hs : s.size <= 100000) (hL : Laid w) : Calls Tryz.prog 25 #[.string s] w (ParsePost w s) := by
 have HL := lh hL;have hb : (w.alloc (.cells Call.zero.cells 66)).heap[w.heap.size]? = some (.cells Call.zero.cells 66 (0, 0)) := heap_alloc_new _ _;have HX := lh (show Ext w (w.alloc (.cells Call.zero.cells 66)) from (Touch.refl _ w).alloc _);have HB := lh hb;clear hL hb;go_enter Tryz.func25, Tryz.ntmps25
 go_upto_region 1 with fail
 change Code.wp Tryz.prog _ _ _ (w.alloc (.cells Call.zero.cells 66));generalize w.alloc (.cells Call.zero.cells 66) = w1 at HX HB ⊢;generalize hbq : w.heap.size = b at HB ⊢;have HG := lh (Nat.le_of_eq hbq);clear hbq;go_wp2_with fail
 refine (split_line w1 s hs (HL.out.ext HX.out)).mono ?_;rintro e w2 ⟨A2, c2, rfl, ho2, hx2, _⟩;obtain ⟨g2, rfl, h20⟩ := own_text (k := 0) ho2 (piecesB_at s (pieces_head s.toList));have HO2 := lh ho2;have H20 := lh h20;have HX2 := lh (HX.out.trans hx2);have HB2 := lh (hx2.blk HB.out id);have HLEN := lh (piecesB_len s)
 have hlen : 1 <= (piecesB s).length /\ (piecesB s).length <= 3 := by
  rw [HLEN.out];split
  ·split <;> decide
  ·decide
 obtain ⟨hl1, hl3⟩ := hlen;have hl0 : 0 < (piecesB s).length := by omega
 clear ho2 hx2 h20;go_wp2_with fail
 refine wp_region_held_drew (S := fun w' => Ext w2 w') (by kernel_rfl) (Touch.drew (Touch.refl _ w2)) (fun hHeld => ?_);refine tK 1 ?_;try simp only [pS]
 refine tK 2 ?_;try simp only [pS]
 refine tK 3 ?_ (hY := fun w' hw' => by
  have hh1 := H20.out w' hw';go_simp;try with_reducible rfl)
 try simp only [pS]
 refine tC 0 fun K hK => ?_;go_simp;go_at_call 50
 refine (line_words w2.drew).mono ?_;rintro e w3 ⟨A3, c3, rfl, ho3, hx3, _⟩;have X3 : Ext w2 w3 := (Touch.drew (Touch.refl _ w2)).trans hx3;have HX3 := lh X3;have HO3 := lh ho3;clear hx3 ho3;refine hK.out _ _ X3 (fun hHeld => ?_);clear hK K;try simp only [pS]
 clear X3;refine tC 4 fun K hK => ?_;go_simp;go_at_call 49
 refine (index_texts w3 w3.heap.size A3 c3 wordsL (mkStr (wordOf s.toList).1) HO3.out.reads (by decide)).mono ?_;rintro e w' ⟨rfl, rfl⟩;refine hK.out _ _ HX3.out (fun hHeld => ?_);clear hK K;try simp only [pS]
 refine tK 5 ?_;try simp only [pS]
 refine tD ?_;clear hHeld;have HIW := lh (idx_word (wordOf s.toList).1);have HPK := lh (parsed_kind s.toList);generalize hidx : idxOf wordsL (mkStr (wordOf s.toList).1) = idx at *;have HIDX := lh hidx;clear hidx;go_upto_region 4 with fail
 have HX4 := lh (HX2.out.trans (HX3.out.trans ((Touch.refl _ w').alloc (.cells #[.int .i64 0, .int .i64 2, .int .i64 2, .int .i64 3, .int .i64 3, .int .i64 2, .int .i64 1] 3))));have HX24 := lh (HX3.out.trans ((Touch.refl _ w').alloc (.cells #[.int .i64 0, .int .i64 2, .int .i64 2, .int .i64 3, .int .i64 3, .int .i64 2, .int .i64 1] 3)));have hb4 := HX24.out.blk HB2.out id;have hm4 : (w'.alloc (.cells #[.int .i64 0, .int .i64 2, .int .i64 2, .int .i64 3, .int .i64 3, .int .i64 2, .int .i64 1] 3)).heap[w'.heap.size]? = some (.cells #[.int .i64 0, .int .i64 2, .int .i64 2, .int .i64 3, .int .i64 3, .int .i64 2, .int .i64 1] 3 (0, 0)) := heap_alloc_new _ _;generalize w'.alloc (.cells #[.int .i64 0, .int .i64 2, .int .i64 2, .int .i64 3, .int .i64 3, .int .i64 2, .int .i64 1] 3) = w4 at HX4 HX24 hb4 hm4 ⊢;generalize w'.heap.size = bm at hm4 ⊢;have HM4 := lh hm4;have HB4 := lh hb4;clear hm4 HX3 HO3 HB2;generalize (wordOf s.toList).1 = wd at *;by_cases hk0 : lineKind wd = 0
 ·have hi1 := HIW.out.1.2 hk0
  have HC := lh (show callOf s.toList = (Call.zero, 12) by
   unfold callOf;rw [HPK.out];simp [hk0])
  clear hk0;go_wp2_with fail
  obtain ⟨he, hbe⟩ := row_end (x := Call.zero) HX4.out HB4.out HG.out;refine bodyPost_ret (results_cell_tmp rfl _ _ ⟨b, 0, none⟩ (.agg Call.zero.cells) rfl (load_block isCall hbe)) rfl ?_;unfold ParsePost;rw [HC.out];exact ⟨rfl, he⟩
 ·have hi := HIW.out.2 hk0;have hkb := (kindWord_of (w := wd) rfl hk0).2;obtain ⟨k, hk⟩ : ∃ k, lineKind wd = k := ⟨_, rfl⟩
  rw [hk] at hi hkb hk0;have HK := lh hk;subst hi;clear hk hk0
  have hcase : ((wordOf s.toList).2.2 = false /\ (piecesB s).length = 1) \/ ((wordOf s.toList).2.2 = true /\ (wordOf (wordOf s.toList).2.1).2.2 = false /\ (piecesB s).length = 2) \/ ((wordOf s.toList).2.2 = true /\ (wordOf (wordOf s.toList).2.1).2.2 = true /\ (piecesB s).length = 3) := by
   rw [HLEN.out];cases (wordOf s.toList).2.2 <;> cases (wordOf (wordOf s.toList).2.1).2.2 <;> simp
  have HPL := lh (show (pieces s.toList).length = (piecesB s).length by unfold piecesB; rw [List.length_map]);have hm4 := HM4.out;have hp1 := p1_le hs;have hp2 := p2_le hs;have hp0 : (⟨#[]⟩ : ByteArray).size <= 140737488351232 := by decide
  rcases hcase with ⟨h1, hm⟩ | ⟨h1, h2, hm⟩ | ⟨h1, h2, hm⟩
  ·have HM := lh hm;rw [hm];rw [hm] at hl0 hl1 hl3;clear h1 hm;obtain hk | hk | hk | hk | hk | hk : idx = 1 \/ idx = 2 \/ idx = 3 \/ idx = 4 \/ idx = 5 \/ idx = 6 := by omega
   ·subst hk;clear hkb hm4;have hmk : w4.cell? ⟨bm, 1, none⟩ = some (.int .i64 2) := cell_of HM4.out 1;have HC := lh (show callOf s.toList = (Call.zero, 12) by unfold callOf; rw [HPK.out]; simp [HK.out, HPL.out, HM.out]);go_wp2_with fail
    obtain ⟨he, hbe⟩ := row_end (x := Call.zero) HX4.out HB4.out HG.out;refine bodyPost_ret (results_cell_tmp rfl _ _ ⟨b, 0, none⟩ (.agg Call.zero.cells) rfl (load_block isCall hbe)) rfl ?_;unfold ParsePost;rw [HC.out];exact ⟨rfl, he⟩
   ·subst hk;clear hkb hm4;have hmk : w4.cell? ⟨bm, 2, none⟩ = some (.int .i64 2) := cell_of HM4.out 2;have HC := lh (show callOf s.toList = (Call.zero, 12) by unfold callOf; rw [HPK.out]; simp [HK.out, HPL.out, HM.out]);go_wp2_with fail
    obtain ⟨he, hbe⟩ := row_end (x := Call.zero) HX4.out HB4.out HG.out;refine bodyPost_ret (results_cell_tmp rfl _ _ ⟨b, 0, none⟩ (.agg Call.zero.cells) rfl (load_block isCall hbe)) rfl ?_;unfold ParsePost;rw [HC.out];exact ⟨rfl, he⟩
   ·subst hk;clear hkb hm4;have hmk : w4.cell? ⟨bm, 3, none⟩ = some (.int .i64 3) := cell_of HM4.out 3;have HC := lh (show callOf s.toList = (Call.zero, 12) by unfold callOf; rw [HPK.out]; simp [HK.out, HPL.out, HM.out]);go_wp2_with fail
    obtain ⟨he, hbe⟩ := row_end (x := Call.zero) HX4.out HB4.out HG.out;refine bodyPost_ret (results_cell_tmp rfl _ _ ⟨b, 0, none⟩ (.agg Call.zero.cells) rfl (load_block isCall hbe)) rfl ?_;unfold ParsePost;rw [HC.out];exact ⟨rfl, he⟩
   ·subst hk;clear hkb hm4;have hmk : w4.cell? ⟨bm, 4, none⟩ = some (.int .i64 3) := cell_of HM4.out 4;have HC := lh (show callOf s.toList = (Call.zero, 12) by unfold callOf; rw [HPK.out]; simp [HK.out, HPL.out, HM.out]);go_wp2_with fail
    obtain ⟨he, hbe⟩ := row_end (x := Call.zero) HX4.out HB4.out HG.out;refine bodyPost_ret (results_cell_tmp rfl _ _ ⟨b, 0, none⟩ (.agg Call.zero.cells) rfl (load_block isCall hbe)) rfl ?_;unfold ParsePost;rw [HC.out];exact ⟨rfl, he⟩
   ·subst hk;clear hkb hm4;have hmk : w4.cell? ⟨bm, 5, none⟩ = some (.int .i64 2) := cell_of HM4.out 5;have HC := lh (show callOf s.toList = (Call.zero, 12) by unfold callOf; rw [HPK.out]; simp [HK.out, HPL.out, HM.out]);go_wp2_with fail
    obtain ⟨he, hbe⟩ := row_end (x := Call.zero) HX4.out HB4.out HG.out;refine bodyPost_ret (results_cell_tmp rfl _ _ ⟨b, 0, none⟩ (.agg Call.zero.cells) rfl (load_block isCall hbe)) rfl ?_;unfold ParsePost;rw [HC.out];exact ⟨rfl, he⟩
   ·skip
    subst hk;clear hkb hm4;have hmk : w4.cell? ⟨bm, 6, none⟩ = some (.int .i64 1) := cell_of HM4.out 6;obtain ⟨cc, hcc⟩ : ∃ cc, callCode ⟨6, ⟨#[]⟩, ⟨#[]⟩, ⟨#[]⟩⟩ = cc := ⟨_, rfl⟩
    have HCC := lh hcc;have HST := lh (show StrCall ⟨6, ⟨#[]⟩, ⟨#[]⟩, ⟨#[]⟩⟩ from ⟨by assumption, by assumption, by assumption⟩);have HP := lh (show parsed s.toList = some ⟨6, ⟨#[]⟩, ⟨#[]⟩, ⟨#[]⟩⟩ from by rw [HPK.out]; simp [HK.out, HPL.out, HM.out]; try (first | rfl | exact ⟨rfl, rfl⟩ | exact ⟨rfl, rfl, rfl⟩));clear hcc;go_upto_region 7 with fail
    have hx5 : Ext w4 (w4.alloc (.cells (⟨6, ⟨#[]⟩, ⟨#[]⟩, ⟨#[]⟩⟩ : Call).cells 66)) := (Touch.refl _ w4).alloc _;have hb7 : (w4.alloc (.cells (⟨6, ⟨#[]⟩, ⟨#[]⟩, ⟨#[]⟩⟩ : Call).cells 66)).heap[w4.heap.size]? = some (.cells (⟨6, ⟨#[]⟩, ⟨#[]⟩, ⟨#[]⟩⟩ : Call).cells 66 (0, 0)) := heap_alloc_new _ _;generalize w4.alloc (.cells (⟨6, ⟨#[]⟩, ⟨#[]⟩, ⟨#[]⟩⟩ : Call).cells 66) = w6 at hx5 hb7 ⊢;generalize w4.heap.size = b7 at hb7 ⊢;have HB6 := lh (hx5.blk HB4.out id);have HX6 := lh (HX4.out.trans hx5);have hb8 := hb7;clear hx5 hb4 hmk hb7;go_wp2_with fail
    refine (files_check' _ ⟨6, ⟨#[]⟩, ⟨#[]⟩, ⟨#[]⟩⟩ cc HCC.out HST.out).mono ?_;rintro e w7 ⟨rfl, hx7⟩;have HX7 := lh (HX6.out.trans hx7);have HB7' := lh (hx7.blk HB6.out id);have hb7' := hx7.blk HB6.out id;have hb9 := hx7.blk hb8 id;clear hx7 hb8;by_cases hc0 : cc = 0
    ·have HC := lh (callOf_yes HP.out (HCC.out.trans hc0));subst hc0;go_wp2_with fail
     obtain ⟨he, hbe⟩ := row_end (x := (⟨6, ⟨#[]⟩, ⟨#[]⟩, ⟨#[]⟩⟩ : Call)) HX7.out HB7'.out HG.out;refine bodyPost_ret (results_cell_tmp rfl _ _ ⟨b, 0, none⟩ (.agg (⟨6, ⟨#[]⟩, ⟨#[]⟩, ⟨#[]⟩⟩ : Call).cells) rfl (load_block isCall hbe)) rfl ?_;unfold ParsePost;rw [HC.out];exact ⟨rfl, he⟩
    ·have HC := lh (show callOf s.toList = (Call.zero, cc) from by rw [callOf_no HP.out (fun e => hc0 (HCC.out.symm.trans e))]; exact congrArg (Prod.mk Call.zero) HCC.out);have hcn : (cc == 0) = false := by simp [hc0]
     have hcn' : (cc != 0) = true := by simp [hc0]
     clear hc0;go_wp2_with fail
     obtain ⟨he, hbe⟩ := row_end (x := Call.zero) HX7.out HB7'.out HG.out;refine bodyPost_ret (results_cell_tmp rfl _ _ ⟨b, 0, none⟩ (.agg Call.zero.cells) rfl (load_block isCall hbe)) rfl ?_;unfold ParsePost;rw [HC.out];exact ⟨rfl, he⟩
  ·have HM := lh hm;obtain ⟨g2', e, h21⟩ := own_text (k := 1) HO2.out (piecesB_at s (pieces_one h1));cases e;rw [hm];rw [hm] at hl0 hl1 hl3;clear h1 h2 hm;generalize mkStr (wordOf (wordOf s.toList).2.1).1 = p1 at *;obtain hk | hk | hk | hk | hk | hk : idx = 1 \/ idx = 2 \/ idx = 3 \/ idx = 4 \/ idx = 5 \/ idx = 6 := by omega
   ·skip
    subst hk;clear hkb hm4;have hmk : w4.cell? ⟨bm, 1, none⟩ = some (.int .i64 2) := cell_of HM4.out 1;obtain ⟨cc, hcc⟩ : ∃ cc, callCode ⟨1, p1, ⟨#[]⟩, ⟨#[]⟩⟩ = cc := ⟨_, rfl⟩
    have HCC := lh hcc;have HST := lh (show StrCall ⟨1, p1, ⟨#[]⟩, ⟨#[]⟩⟩ from ⟨by assumption, by assumption, by assumption⟩);have HP := lh (show parsed s.toList = some ⟨1, p1, ⟨#[]⟩, ⟨#[]⟩⟩ from by rw [HPK.out]; simp [HK.out, HPL.out, HM.out]; try (first | rfl | exact ⟨rfl, rfl⟩ | exact ⟨rfl, rfl, rfl⟩));clear hcc;go_upto_region 7 with fail
    have hx5 : Ext w4 (w4.alloc (.cells (⟨1, ⟨#[]⟩, ⟨#[]⟩, ⟨#[]⟩⟩ : Call).cells 66)) := (Touch.refl _ w4).alloc _;have hb7 : (w4.alloc (.cells (⟨1, ⟨#[]⟩, ⟨#[]⟩, ⟨#[]⟩⟩ : Call).cells 66)).heap[w4.heap.size]? = some (.cells (⟨1, ⟨#[]⟩, ⟨#[]⟩, ⟨#[]⟩⟩ : Call).cells 66 (0, 0)) := heap_alloc_new _ _;generalize w4.alloc (.cells (⟨1, ⟨#[]⟩, ⟨#[]⟩, ⟨#[]⟩⟩ : Call).cells 66) = w5 at hx5 hb7 ⊢;have hbb : b < w4.heap.size := (aG HB4.out).1;have hgw : w.heap.size <= w4.heap.size := HX4.out.size;have hg2 : g2 < w4.heap.size := Nat.lt_of_lt_of_le (cell_lt (H20.out w2 (Touch.refl _ _))) HX24.out.size;generalize w4.heap.size = b7 at hb7 hbb hgw hg2 ⊢;have HB5 := lh (hx5.blk HB4.out id);have h21' := h21 w5 (HX24.out.trans hx5);have HX5 := lh (HX4.out.trans hx5);have hc7 := cell_of hb7 1;have hf7 := frozen_of hb7 1;have HBB := lh hbb;have HGW := lh hgw;have HB7 := lh hb7;have HG2 := lh hg2;have H25 := lh (HX24.out.trans hx5);clear hx5 hb4 hmk hbb hgw hb7 hg2;go_upto_region 9 with fail
    have hb8 := setCell_blk HB7.out 1 (.string p1);rw [show (⟨1, ⟨#[]⟩, ⟨#[]⟩, ⟨#[]⟩⟩ : Call).cells.setIfInBounds 1 (.string p1) = (⟨1, p1, ⟨#[]⟩, ⟨#[]⟩⟩ : Call).cells from rfl] at hb8;have HX6 := lh (HX5.out.setCell (a := ⟨b7, 1, none⟩) (.inr HGW.out) (.string p1));have HB6 := lh (show (w5.setCell ⟨b7, 1, none⟩ (.string p1)).heap[b]? = some (.cells Call.zero.cells 66 (0, 0)) from (heap_setCell_other _ _ _ _ (by have := HBB.out; simp; omega)).trans HB5.out);have HC5 := lh (show ∀ u : Value, (∀ w', Ext w2 w' -> w'.cell? ⟨g2, 2, none⟩ = some u) -> (w5.setCell ⟨b7, 1, none⟩ (.string p1)).cell? ⟨g2, 2, none⟩ = some u from fun u h => cell_other (h w5 H25.out) (by have := HG2.out; omega));clear hc7 hf7 h21';generalize w5.setCell ⟨b7, 1, none⟩ (.string p1) = w6 at hb8 HX6 HB6 HC5 ⊢;go_wp2_with fail
    refine (files_check' _ ⟨1, p1, ⟨#[]⟩, ⟨#[]⟩⟩ cc HCC.out HST.out).mono ?_;rintro e w7 ⟨rfl, hx7⟩;have HX7 := lh (HX6.out.trans hx7);have HB7' := lh (hx7.blk HB6.out id);have hb7' := hx7.blk HB6.out id;have hb9 := hx7.blk hb8 id;clear hx7 hb8;by_cases hc0 : cc = 0
    ·have HC := lh (callOf_yes HP.out (HCC.out.trans hc0));subst hc0;go_wp2_with fail
     obtain ⟨he, hbe⟩ := row_end (x := (⟨1, p1, ⟨#[]⟩, ⟨#[]⟩⟩ : Call)) HX7.out HB7'.out HG.out;refine bodyPost_ret (results_cell_tmp rfl _ _ ⟨b, 0, none⟩ (.agg (⟨1, p1, ⟨#[]⟩, ⟨#[]⟩⟩ : Call).cells) rfl (load_block isCall hbe)) rfl ?_;unfold ParsePost;rw [HC.out];exact ⟨rfl, he⟩
    ·have HC := lh (show callOf s.toList = (Call.zero, cc) from by rw [callOf_no HP.out (fun e => hc0 (HCC.out.symm.trans e))]; exact congrArg (Prod.mk Call.zero) HCC.out);have hcn : (cc == 0) = false := by simp [hc0]
     have hcn' : (cc != 0) = true := by simp [hc0]
     clear hc0;go_wp2_with fail
     obtain ⟨he, hbe⟩ := row_end (x := Call.zero) HX7.out HB7'.out HG.out;refine bodyPost_ret (results_cell_tmp rfl _ _ ⟨b, 0, none⟩ (.agg Call.zero.cells) rfl (load_block isCall hbe)) rfl ?_;unfold ParsePost;rw [HC.out];exact ⟨rfl, he⟩
   ·skip
    subst hk;clear hkb hm4;have hmk : w4.cell? ⟨bm, 2, none⟩ = some (.int .i64 2) := cell_of HM4.out 2;obtain ⟨cc, hcc⟩ : ∃ cc, callCode ⟨2, p1, ⟨#[]⟩, ⟨#[]⟩⟩ = cc := ⟨_, rfl⟩
    have HCC := lh hcc;have HST := lh (show StrCall ⟨2, p1, ⟨#[]⟩, ⟨#[]⟩⟩ from ⟨by assumption, by assumption, by assumption⟩);have HP := lh (show parsed s.toList = some ⟨2, p1, ⟨#[]⟩, ⟨#[]⟩⟩ from by rw [HPK.out]; simp [HK.out, HPL.out, HM.out]; try (first | rfl | exact ⟨rfl, rfl⟩ | exact ⟨rfl, rfl, rfl⟩));clear hcc;go_upto_region 7 with fail
    have hx5 : Ext w4 (w4.alloc (.cells (⟨2, ⟨#[]⟩, ⟨#[]⟩, ⟨#[]⟩⟩ : Call).cells 66)) := (Touch.refl _ w4).alloc _;have hb7 : (w4.alloc (.cells (⟨2, ⟨#[]⟩, ⟨#[]⟩, ⟨#[]⟩⟩ : Call).cells 66)).heap[w4.heap.size]? = some (.cells (⟨2, ⟨#[]⟩, ⟨#[]⟩, ⟨#[]⟩⟩ : Call).cells 66 (0, 0)) := heap_alloc_new _ _;generalize w4.alloc (.cells (⟨2, ⟨#[]⟩, ⟨#[]⟩, ⟨#[]⟩⟩ : Call).cells 66) = w5 at hx5 hb7 ⊢;have hbb : b < w4.heap.size := (aG HB4.out).1;have hgw : w.heap.size <= w4.heap.size := HX4.out.size;have hg2 : g2 < w4.heap.size := Nat.lt_of_lt_of_le (cell_lt (H20.out w2 (Touch.refl _ _))) HX24.out.size;generalize w4.heap.size = b7 at hb7 hbb hgw hg2 ⊢;have HB5 := lh (hx5.blk HB4.out id);have h21' := h21 w5 (HX24.out.trans hx5);have HX5 := lh (HX4.out.trans hx5);have hc7 := cell_of hb7 1;have hf7 := frozen_of hb7 1;have HBB := lh hbb;have HGW := lh hgw;have HB7 := lh hb7;have HG2 := lh hg2;have H25 := lh (HX24.out.trans hx5);clear hx5 hb4 hmk hbb hgw hb7 hg2;go_upto_region 9 with fail
    have hb8 := setCell_blk HB7.out 1 (.string p1);rw [show (⟨2, ⟨#[]⟩, ⟨#[]⟩, ⟨#[]⟩⟩ : Call).cells.setIfInBounds 1 (.string p1) = (⟨2, p1, ⟨#[]⟩, ⟨#[]⟩⟩ : Call).cells from rfl] at hb8;have HX6 := lh (HX5.out.setCell (a := ⟨b7, 1, none⟩) (.inr HGW.out) (.string p1));have HB6 := lh (show (w5.setCell ⟨b7, 1, none⟩ (.string p1)).heap[b]? = some (.cells Call.zero.cells 66 (0, 0)) from (heap_setCell_other _ _ _ _ (by have := HBB.out; simp; omega)).trans HB5.out);have HC5 := lh (show ∀ u : Value, (∀ w', Ext w2 w' -> w'.cell? ⟨g2, 2, none⟩ = some u) -> (w5.setCell ⟨b7, 1, none⟩ (.string p1)).cell? ⟨g2, 2, none⟩ = some u from fun u h => cell_other (h w5 H25.out) (by have := HG2.out; omega));clear hc7 hf7 h21';generalize w5.setCell ⟨b7, 1, none⟩ (.string p1) = w6 at hb8 HX6 HB6 HC5 ⊢;go_wp2_with fail
    refine (files_check' _ ⟨2, p1, ⟨#[]⟩, ⟨#[]⟩⟩ cc HCC.out HST.out).mono ?_;rintro e w7 ⟨rfl, hx7⟩;have HX7 := lh (HX6.out.trans hx7);have HB7' := lh (hx7.blk HB6.out id);have hb7' := hx7.blk HB6.out id;have hb9 := hx7.blk hb8 id;clear hx7 hb8;by_cases hc0 : cc = 0
    ·have HC := lh (callOf_yes HP.out (HCC.out.trans hc0));subst hc0;go_wp2_with fail
     obtain ⟨he, hbe⟩ := row_end (x := (⟨2, p1, ⟨#[]⟩, ⟨#[]⟩⟩ : Call)) HX7.out HB7'.out HG.out;refine bodyPost_ret (results_cell_tmp rfl _ _ ⟨b, 0, none⟩ (.agg (⟨2, p1, ⟨#[]⟩, ⟨#[]⟩⟩ : Call).cells) rfl (load_block isCall hbe)) rfl ?_;unfold ParsePost;rw [HC.out];exact ⟨rfl, he⟩
    ·have HC := lh (show callOf s.toList = (Call.zero, cc) from by rw [callOf_no HP.out (fun e => hc0 (HCC.out.symm.trans e))]; exact congrArg (Prod.mk Call.zero) HCC.out);have hcn : (cc == 0) = false := by simp [hc0]
     have hcn' : (cc != 0) = true := by simp [hc0]
     clear hc0;go_wp2_with fail
     obtain ⟨he, hbe⟩ := row_end (x := Call.zero) HX7.out HB7'.out HG.out;refine bodyPost_ret (results_cell_tmp rfl _ _ ⟨b, 0, none⟩ (.agg Call.zero.cells) rfl (load_block isCall hbe)) rfl ?_;unfold ParsePost;rw [HC.out];exact ⟨rfl, he⟩
   ·subst hk;clear hkb hm4;have hmk : w4.cell? ⟨bm, 3, none⟩ = some (.int .i64 3) := cell_of HM4.out 3;have HC := lh (show callOf s.toList = (Call.zero, 12) by unfold callOf; rw [HPK.out]; simp [HK.out, HPL.out, HM.out]);go_wp2_with fail
    obtain ⟨he, hbe⟩ := row_end (x := Call.zero) HX4.out HB4.out HG.out;refine bodyPost_ret (results_cell_tmp rfl _ _ ⟨b, 0, none⟩ (.agg Call.zero.cells) rfl (load_block isCall hbe)) rfl ?_;unfold ParsePost;rw [HC.out];exact ⟨rfl, he⟩
   ·subst hk;clear hkb hm4;have hmk : w4.cell? ⟨bm, 4, none⟩ = some (.int .i64 3) := cell_of HM4.out 4;have HC := lh (show callOf s.toList = (Call.zero, 12) by unfold callOf; rw [HPK.out]; simp [HK.out, HPL.out, HM.out]);go_wp2_with fail
    obtain ⟨he, hbe⟩ := row_end (x := Call.zero) HX4.out HB4.out HG.out;refine bodyPost_ret (results_cell_tmp rfl _ _ ⟨b, 0, none⟩ (.agg Call.zero.cells) rfl (load_block isCall hbe)) rfl ?_;unfold ParsePost;rw [HC.out];exact ⟨rfl, he⟩
   ·skip
    subst hk;clear hkb hm4;have hmk : w4.cell? ⟨bm, 5, none⟩ = some (.int .i64 2) := cell_of HM4.out 5;obtain ⟨cc, hcc⟩ : ∃ cc, callCode ⟨5, p1, ⟨#[]⟩, ⟨#[]⟩⟩ = cc := ⟨_, rfl⟩
    have HCC := lh hcc;have HST := lh (show StrCall ⟨5, p1, ⟨#[]⟩, ⟨#[]⟩⟩ from ⟨by assumption, by assumption, by assumption⟩);have HP := lh (show parsed s.toList = some ⟨5, p1, ⟨#[]⟩, ⟨#[]⟩⟩ from by rw [HPK.out]; simp [HK.out, HPL.out, HM.out]; try (first | rfl | exact ⟨rfl, rfl⟩ | exact ⟨rfl, rfl, rfl⟩));clear hcc;go_upto_region 7 with fail
    have hx5 : Ext w4 (w4.alloc (.cells (⟨5, ⟨#[]⟩, ⟨#[]⟩, ⟨#[]⟩⟩ : Call).cells 66)) := (Touch.refl _ w4).alloc _;have hb7 : (w4.alloc (.cells (⟨5, ⟨#[]⟩, ⟨#[]⟩, ⟨#[]⟩⟩ : Call).cells 66)).heap[w4.heap.size]? = some (.cells (⟨5, ⟨#[]⟩, ⟨#[]⟩, ⟨#[]⟩⟩ : Call).cells 66 (0, 0)) := heap_alloc_new _ _;generalize w4.alloc (.cells (⟨5, ⟨#[]⟩, ⟨#[]⟩, ⟨#[]⟩⟩ : Call).cells 66) = w5 at hx5 hb7 ⊢;have hbb : b < w4.heap.size := (aG HB4.out).1;have hgw : w.heap.size <= w4.heap.size := HX4.out.size;have hg2 : g2 < w4.heap.size := Nat.lt_of_lt_of_le (cell_lt (H20.out w2 (Touch.refl _ _))) HX24.out.size;generalize w4.heap.size = b7 at hb7 hbb hgw hg2 ⊢;have HB5 := lh (hx5.blk HB4.out id);have h21' := h21 w5 (HX24.out.trans hx5);have HX5 := lh (HX4.out.trans hx5);have hc7 := cell_of hb7 1;have hf7 := frozen_of hb7 1;have HBB := lh hbb;have HGW := lh hgw;have HB7 := lh hb7;have HG2 := lh hg2;have H25 := lh (HX24.out.trans hx5);clear hx5 hb4 hmk hbb hgw hb7 hg2;go_upto_region 9 with fail
    have hb8 := setCell_blk HB7.out 1 (.string p1);rw [show (⟨5, ⟨#[]⟩, ⟨#[]⟩, ⟨#[]⟩⟩ : Call).cells.setIfInBounds 1 (.string p1) = (⟨5, p1, ⟨#[]⟩, ⟨#[]⟩⟩ : Call).cells from rfl] at hb8;have HX6 := lh (HX5.out.setCell (a := ⟨b7, 1, none⟩) (.inr HGW.out) (.string p1));have HB6 := lh (show (w5.setCell ⟨b7, 1, none⟩ (.string p1)).heap[b]? = some (.cells Call.zero.cells 66 (0, 0)) from (heap_setCell_other _ _ _ _ (by have := HBB.out; simp; omega)).trans HB5.out);have HC5 := lh (show ∀ u : Value, (∀ w', Ext w2 w' -> w'.cell? ⟨g2, 2, none⟩ = some u) -> (w5.setCell ⟨b7, 1, none⟩ (.string p1)).cell? ⟨g2, 2, none⟩ = some u from fun u h => cell_other (h w5 H25.out) (by have := HG2.out; omega));clear hc7 hf7 h21';generalize w5.setCell ⟨b7, 1, none⟩ (.string p1) = w6 at hb8 HX6 HB6 HC5 ⊢;go_wp2_with fail
    refine (files_check' _ ⟨5, p1, ⟨#[]⟩, ⟨#[]⟩⟩ cc HCC.out HST.out).mono ?_;rintro e w7 ⟨rfl, hx7⟩;have HX7 := lh (HX6.out.trans hx7);have HB7' := lh (hx7.blk HB6.out id);have hb7' := hx7.blk HB6.out id;have hb9 := hx7.blk hb8 id;clear hx7 hb8;by_cases hc0 : cc = 0
    ·have HC := lh (callOf_yes HP.out (HCC.out.trans hc0));subst hc0;go_wp2_with fail
     obtain ⟨he, hbe⟩ := row_end (x := (⟨5, p1, ⟨#[]⟩, ⟨#[]⟩⟩ : Call)) HX7.out HB7'.out HG.out;refine bodyPost_ret (results_cell_tmp rfl _ _ ⟨b, 0, none⟩ (.agg (⟨5, p1, ⟨#[]⟩, ⟨#[]⟩⟩ : Call).cells) rfl (load_block isCall hbe)) rfl ?_;unfold ParsePost;rw [HC.out];exact ⟨rfl, he⟩
    ·have HC := lh (show callOf s.toList = (Call.zero, cc) from by rw [callOf_no HP.out (fun e => hc0 (HCC.out.symm.trans e))]; exact congrArg (Prod.mk Call.zero) HCC.out);have hcn : (cc == 0) = false := by simp [hc0]
     have hcn' : (cc != 0) = true := by simp [hc0]
     clear hc0;go_wp2_with fail
     obtain ⟨he, hbe⟩ := row_end (x := Call.zero) HX7.out HB7'.out HG.out;refine bodyPost_ret (results_cell_tmp rfl _ _ ⟨b, 0, none⟩ (.agg Call.zero.cells) rfl (load_block isCall hbe)) rfl ?_;unfold ParsePost;rw [HC.out];exact ⟨rfl, he⟩
   ·subst hk;clear hkb hm4;have hmk : w4.cell? ⟨bm, 6, none⟩ = some (.int .i64 1) := cell_of HM4.out 6;have HC := lh (show callOf s.toList = (Call.zero, 12) by unfold callOf; rw [HPK.out]; simp [HK.out, HPL.out, HM.out]);go_wp2_with fail
    obtain ⟨he, hbe⟩ := row_end (x := Call.zero) HX4.out HB4.out HG.out;refine bodyPost_ret (results_cell_tmp rfl _ _ ⟨b, 0, none⟩ (.agg Call.zero.cells) rfl (load_block isCall hbe)) rfl ?_;unfold ParsePost;rw [HC.out];exact ⟨rfl, he⟩
  ·have HM := lh hm;obtain ⟨g2', e, h21⟩ := own_text (k := 1) HO2.out (piecesB_at s (pieces_one h1));cases e;obtain ⟨g2', e, h22⟩ := own_text (k := 2) HO2.out (piecesB_at s (pieces_two h1 h2));cases e;have H22 := lh h22;rw [hm];rw [hm] at hl0 hl1 hl3;clear h1 h2 hm h22;generalize mkStr (wordOf (wordOf s.toList).2.1).1 = p1 at *;generalize mkStr (wordOf (wordOf s.toList).2.1).2.1 = p2 at *;obtain hk | hk | hk | hk | hk | hk : idx = 1 \/ idx = 2 \/ idx = 3 \/ idx = 4 \/ idx = 5 \/ idx = 6 := by omega
   ·subst hk;clear hkb hm4;have hmk : w4.cell? ⟨bm, 1, none⟩ = some (.int .i64 2) := cell_of HM4.out 1;have HC := lh (show callOf s.toList = (Call.zero, 12) by unfold callOf; rw [HPK.out]; simp [HK.out, HPL.out, HM.out]);go_wp2_with fail
    obtain ⟨he, hbe⟩ := row_end (x := Call.zero) HX4.out HB4.out HG.out;refine bodyPost_ret (results_cell_tmp rfl _ _ ⟨b, 0, none⟩ (.agg Call.zero.cells) rfl (load_block isCall hbe)) rfl ?_;unfold ParsePost;rw [HC.out];exact ⟨rfl, he⟩
   ·subst hk;clear hkb hm4;have hmk : w4.cell? ⟨bm, 2, none⟩ = some (.int .i64 2) := cell_of HM4.out 2;have HC := lh (show callOf s.toList = (Call.zero, 12) by unfold callOf; rw [HPK.out]; simp [HK.out, HPL.out, HM.out]);go_wp2_with fail
    obtain ⟨he, hbe⟩ := row_end (x := Call.zero) HX4.out HB4.out HG.out;refine bodyPost_ret (results_cell_tmp rfl _ _ ⟨b, 0, none⟩ (.agg Call.zero.cells) rfl (load_block isCall hbe)) rfl ?_;unfold ParsePost;rw [HC.out];exact ⟨rfl, he⟩
   ·skip
    subst hk;clear hkb hm4;have hmk : w4.cell? ⟨bm, 3, none⟩ = some (.int .i64 3) := cell_of HM4.out 3;obtain ⟨cc, hcc⟩ : ∃ cc, callCode ⟨3, p1, p2, ⟨#[]⟩⟩ = cc := ⟨_, rfl⟩
    have HCC := lh hcc;have HST := lh (show StrCall ⟨3, p1, p2, ⟨#[]⟩⟩ from ⟨by assumption, by assumption, by assumption⟩);have HP := lh (show parsed s.toList = some ⟨3, p1, p2, ⟨#[]⟩⟩ from by rw [HPK.out]; simp [HK.out, HPL.out, HM.out]; try (first | rfl | exact ⟨rfl, rfl⟩ | exact ⟨rfl, rfl, rfl⟩));clear hcc;go_upto_region 7 with fail
    have hx5 : Ext w4 (w4.alloc (.cells (⟨3, ⟨#[]⟩, ⟨#[]⟩, ⟨#[]⟩⟩ : Call).cells 66)) := (Touch.refl _ w4).alloc _;have hb7 : (w4.alloc (.cells (⟨3, ⟨#[]⟩, ⟨#[]⟩, ⟨#[]⟩⟩ : Call).cells 66)).heap[w4.heap.size]? = some (.cells (⟨3, ⟨#[]⟩, ⟨#[]⟩, ⟨#[]⟩⟩ : Call).cells 66 (0, 0)) := heap_alloc_new _ _;generalize w4.alloc (.cells (⟨3, ⟨#[]⟩, ⟨#[]⟩, ⟨#[]⟩⟩ : Call).cells 66) = w5 at hx5 hb7 ⊢;have hbb : b < w4.heap.size := (aG HB4.out).1;have hgw : w.heap.size <= w4.heap.size := HX4.out.size;have hg2 : g2 < w4.heap.size := Nat.lt_of_lt_of_le (cell_lt (H20.out w2 (Touch.refl _ _))) HX24.out.size;generalize w4.heap.size = b7 at hb7 hbb hgw hg2 ⊢;have HB5 := lh (hx5.blk HB4.out id);have h21' := h21 w5 (HX24.out.trans hx5);have HX5 := lh (HX4.out.trans hx5);have hc7 := cell_of hb7 1;have hf7 := frozen_of hb7 1;have HBB := lh hbb;have HGW := lh hgw;have HB7 := lh hb7;have HG2 := lh hg2;have H25 := lh (HX24.out.trans hx5);clear hx5 hb4 hmk hbb hgw hb7 hg2;go_upto_region 9 with fail
    have hb8 := setCell_blk HB7.out 1 (.string p1);rw [show (⟨3, ⟨#[]⟩, ⟨#[]⟩, ⟨#[]⟩⟩ : Call).cells.setIfInBounds 1 (.string p1) = (⟨3, p1, ⟨#[]⟩, ⟨#[]⟩⟩ : Call).cells from rfl] at hb8;have HX6 := lh (HX5.out.setCell (a := ⟨b7, 1, none⟩) (.inr HGW.out) (.string p1));have HB6 := lh (show (w5.setCell ⟨b7, 1, none⟩ (.string p1)).heap[b]? = some (.cells Call.zero.cells 66 (0, 0)) from (heap_setCell_other _ _ _ _ (by have := HBB.out; simp; omega)).trans HB5.out);have HC5 := lh (show ∀ u : Value, (∀ w', Ext w2 w' -> w'.cell? ⟨g2, 2, none⟩ = some u) -> (w5.setCell ⟨b7, 1, none⟩ (.string p1)).cell? ⟨g2, 2, none⟩ = some u from fun u h => cell_other (h w5 H25.out) (by have := HG2.out; omega));clear hc7 hf7 h21';generalize w5.setCell ⟨b7, 1, none⟩ (.string p1) = w6 at hb8 HX6 HB6 HC5 ⊢;have h22' : w6.cell? ⟨g2, 2, none⟩ = some (.string p2) := HC5.out _ H22.out;have hc8 := cell_of hb8 2;have hf8 := frozen_of hb8 2;have HB8 := lh hb8;have hbb6 := HBB.out;clear hb8;go_upto_region 14 with fail
    have hb8 := setCell_blk HB8.out 2 (.string p2);rw [show (⟨3, p1, ⟨#[]⟩, ⟨#[]⟩⟩ : Call).cells.setIfInBounds 2 (.string p2) = (⟨3, p1, p2, ⟨#[]⟩⟩ : Call).cells from rfl] at hb8;have hx8 := HX6.out.setCell (a := ⟨b7, 2, none⟩) (.inr HGW.out) (.string p2);have hb6 := (heap_setCell_other w6 (⟨b7, 2, none⟩ : Addr) b (.string p2) (by have := HBB.out; simp; omega)).trans HB6.out;clear hc8 hf8 hbb6 h22' HX6 HB6;generalize w6.setCell ⟨b7, 2, none⟩ (.string p2) = w9 at hb8 hx8 hb6 ⊢;have HX6 := lh hx8;have HB6 := lh hb6;clear hx8 hb6;go_wp2_with fail
    refine (files_check' _ ⟨3, p1, p2, ⟨#[]⟩⟩ cc HCC.out HST.out).mono ?_;rintro e w7 ⟨rfl, hx7⟩;have HX7 := lh (HX6.out.trans hx7);have HB7' := lh (hx7.blk HB6.out id);have hb7' := hx7.blk HB6.out id;have hb9 := hx7.blk hb8 id;clear hx7 hb8;by_cases hc0 : cc = 0
    ·have HC := lh (callOf_yes HP.out (HCC.out.trans hc0));subst hc0;go_wp2_with fail
     obtain ⟨he, hbe⟩ := row_end (x := (⟨3, p1, p2, ⟨#[]⟩⟩ : Call)) HX7.out HB7'.out HG.out;refine bodyPost_ret (results_cell_tmp rfl _ _ ⟨b, 0, none⟩ (.agg (⟨3, p1, p2, ⟨#[]⟩⟩ : Call).cells) rfl (load_block isCall hbe)) rfl ?_;unfold ParsePost;rw [HC.out];exact ⟨rfl, he⟩
    ·have HC := lh (show callOf s.toList = (Call.zero, cc) from by rw [callOf_no HP.out (fun e => hc0 (HCC.out.symm.trans e))]; exact congrArg (Prod.mk Call.zero) HCC.out);have hcn : (cc == 0) = false := by simp [hc0]
     have hcn' : (cc != 0) = true := by simp [hc0]
     clear hc0;go_wp2_with fail
     obtain ⟨he, hbe⟩ := row_end (x := Call.zero) HX7.out HB7'.out HG.out;refine bodyPost_ret (results_cell_tmp rfl _ _ ⟨b, 0, none⟩ (.agg Call.zero.cells) rfl (load_block isCall hbe)) rfl ?_;unfold ParsePost;rw [HC.out];exact ⟨rfl, he⟩
   ·skip
    subst hk;clear hkb hm4;have hmk : w4.cell? ⟨bm, 4, none⟩ = some (.int .i64 3) := cell_of HM4.out 4;obtain ⟨cc, hcc⟩ : ∃ cc, callCode ⟨4, p1, ⟨#[]⟩, p2⟩ = cc := ⟨_, rfl⟩
    have HCC := lh hcc;have HST := lh (show StrCall ⟨4, p1, ⟨#[]⟩, p2⟩ from ⟨by assumption, by assumption, by assumption⟩);have HP := lh (show parsed s.toList = some ⟨4, p1, ⟨#[]⟩, p2⟩ from by rw [HPK.out]; simp [HK.out, HPL.out, HM.out]; try (first | rfl | exact ⟨rfl, rfl⟩ | exact ⟨rfl, rfl, rfl⟩));clear hcc;go_upto_region 7 with fail
    have hx5 : Ext w4 (w4.alloc (.cells (⟨4, ⟨#[]⟩, ⟨#[]⟩, ⟨#[]⟩⟩ : Call).cells 66)) := (Touch.refl _ w4).alloc _;have hb7 : (w4.alloc (.cells (⟨4, ⟨#[]⟩, ⟨#[]⟩, ⟨#[]⟩⟩ : Call).cells 66)).heap[w4.heap.size]? = some (.cells (⟨4, ⟨#[]⟩, ⟨#[]⟩, ⟨#[]⟩⟩ : Call).cells 66 (0, 0)) := heap_alloc_new _ _;generalize w4.alloc (.cells (⟨4, ⟨#[]⟩, ⟨#[]⟩, ⟨#[]⟩⟩ : Call).cells 66) = w5 at hx5 hb7 ⊢;have hbb : b < w4.heap.size := (aG HB4.out).1;have hgw : w.heap.size <= w4.heap.size := HX4.out.size;have hg2 : g2 < w4.heap.size := Nat.lt_of_lt_of_le (cell_lt (H20.out w2 (Touch.refl _ _))) HX24.out.size;generalize w4.heap.size = b7 at hb7 hbb hgw hg2 ⊢;have HB5 := lh (hx5.blk HB4.out id);have h21' := h21 w5 (HX24.out.trans hx5);have HX5 := lh (HX4.out.trans hx5);have hc7 := cell_of hb7 1;have hf7 := frozen_of hb7 1;have HBB := lh hbb;have HGW := lh hgw;have HB7 := lh hb7;have HG2 := lh hg2;have H25 := lh (HX24.out.trans hx5);clear hx5 hb4 hmk hbb hgw hb7 hg2;go_upto_region 9 with fail
    have hb8 := setCell_blk HB7.out 1 (.string p1);rw [show (⟨4, ⟨#[]⟩, ⟨#[]⟩, ⟨#[]⟩⟩ : Call).cells.setIfInBounds 1 (.string p1) = (⟨4, p1, ⟨#[]⟩, ⟨#[]⟩⟩ : Call).cells from rfl] at hb8;have HX6 := lh (HX5.out.setCell (a := ⟨b7, 1, none⟩) (.inr HGW.out) (.string p1));have HB6 := lh (show (w5.setCell ⟨b7, 1, none⟩ (.string p1)).heap[b]? = some (.cells Call.zero.cells 66 (0, 0)) from (heap_setCell_other _ _ _ _ (by have := HBB.out; simp; omega)).trans HB5.out);have HC5 := lh (show ∀ u : Value, (∀ w', Ext w2 w' -> w'.cell? ⟨g2, 2, none⟩ = some u) -> (w5.setCell ⟨b7, 1, none⟩ (.string p1)).cell? ⟨g2, 2, none⟩ = some u from fun u h => cell_other (h w5 H25.out) (by have := HG2.out; omega));clear hc7 hf7 h21';generalize w5.setCell ⟨b7, 1, none⟩ (.string p1) = w6 at hb8 HX6 HB6 HC5 ⊢;have h22' : w6.cell? ⟨g2, 2, none⟩ = some (.string p2) := HC5.out _ H22.out;have hc8 := cell_of hb8 3;have hf8 := frozen_of hb8 3;have HB8 := lh hb8;have hbb6 := HBB.out;clear hb8;go_upto_region 14 with fail
    have hb8 := setCell_blk HB8.out 3 (.string p2);rw [show (⟨4, p1, ⟨#[]⟩, ⟨#[]⟩⟩ : Call).cells.setIfInBounds 3 (.string p2) = (⟨4, p1, ⟨#[]⟩, p2⟩ : Call).cells from rfl] at hb8;have hx8 := HX6.out.setCell (a := ⟨b7, 3, none⟩) (.inr HGW.out) (.string p2);have hb6 := (heap_setCell_other w6 (⟨b7, 3, none⟩ : Addr) b (.string p2) (by have := HBB.out; simp; omega)).trans HB6.out;clear hc8 hf8 hbb6 h22' HX6 HB6;generalize w6.setCell ⟨b7, 3, none⟩ (.string p2) = w9 at hb8 hx8 hb6 ⊢;have HX6 := lh hx8;have HB6 := lh hb6;clear hx8 hb6;go_wp2_with fail
    refine (files_check' _ ⟨4, p1, ⟨#[]⟩, p2⟩ cc HCC.out HST.out).mono ?_;rintro e w7 ⟨rfl, hx7⟩;have HX7 := lh (HX6.out.trans hx7);have HB7' := lh (hx7.blk HB6.out id);have hb7' := hx7.blk HB6.out id;have hb9 := hx7.blk hb8 id;clear hx7 hb8;by_cases hc0 : cc = 0
    ·have HC := lh (callOf_yes HP.out (HCC.out.trans hc0));subst hc0;go_wp2_with fail
     obtain ⟨he, hbe⟩ := row_end (x := (⟨4, p1, ⟨#[]⟩, p2⟩ : Call)) HX7.out HB7'.out HG.out;refine bodyPost_ret (results_cell_tmp rfl _ _ ⟨b, 0, none⟩ (.agg (⟨4, p1, ⟨#[]⟩, p2⟩ : Call).cells) rfl (load_block isCall hbe)) rfl ?_;unfold ParsePost;rw [HC.out];exact ⟨rfl, he⟩
    ·have HC := lh (show callOf s.toList = (Call.zero, cc) from by rw [callOf_no HP.out (fun e => hc0 (HCC.out.symm.trans e))]; exact congrArg (Prod.mk Call.zero) HCC.out);have hcn : (cc == 0) = false := by simp [hc0]
     have hcn' : (cc != 0) = true := by simp [hc0]
     clear hc0;go_wp2_with fail
     obtain ⟨he, hbe⟩ := row_end (x := Call.zero) HX7.out HB7'.out HG.out;refine bodyPost_ret (results_cell_tmp rfl _ _ ⟨b, 0, none⟩ (.agg Call.zero.cells) rfl (load_block isCall hbe)) rfl ?_;unfold ParsePost;rw [HC.out];exact ⟨rfl, he⟩
   ·subst hk;clear hkb hm4;have hmk : w4.cell? ⟨bm, 5, none⟩ = some (.int .i64 2) := cell_of HM4.out 5;have HC := lh (show callOf s.toList = (Call.zero, 12) by unfold callOf; rw [HPK.out]; simp [HK.out, HPL.out, HM.out]);go_wp2_with fail
    obtain ⟨he, hbe⟩ := row_end (x := Call.zero) HX4.out HB4.out HG.out;refine bodyPost_ret (results_cell_tmp rfl _ _ ⟨b, 0, none⟩ (.agg Call.zero.cells) rfl (load_block isCall hbe)) rfl ?_;unfold ParsePost;rw [HC.out];exact ⟨rfl, he⟩
   ·subst hk;clear hkb hm4;have hmk : w4.cell? ⟨bm, 6, none⟩ = some (.int .i64 1) := cell_of HM4.out 6;have HC := lh (show callOf s.toList = (Call.zero, 12) by unfold callOf; rw [HPK.out]; simp [HK.out, HPL.out, HM.out]);go_wp2_with fail
    obtain ⟨he, hbe⟩ := row_end (x := Call.zero) HX4.out HB4.out HG.out;refine bodyPost_ret (results_cell_tmp rfl _ _ ⟨b, 0, none⟩ (.agg Call.zero.cells) rfl (load_block isCall hbe)) rfl ?_;unfold ParsePost;rw [HC.out];exact ⟨rfl, he⟩
end Go.Proofs.YtalfbhhldfffkaaGreatDoor
