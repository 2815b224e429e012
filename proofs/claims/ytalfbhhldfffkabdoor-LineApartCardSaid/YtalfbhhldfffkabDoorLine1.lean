/- Line1: what the package line and the reference do with numbers and answers; the reference's word. -/
import Derived.Test.YtalfbhhldfffkabDoorLineLib
import Derived.Test.YtalfbhhldfffkabDoorTypes
import Derived.Test.YtalfbhhldfffkabDoorRead
import Derived.Lib.ItoaLen
namespace Go.Proofs.YtalfbhhldfffkabDoor
open Go.RowKit

/-- what the library's functions want of the world -/
structure Laid (w : World) : Prop where
  tab : Lib.TabIs Tryd.prog w "internal/strconv.uint64pow10" .u64 Lib.pow10Tab
  max : ∃ m, w.cell? ⟨0, 0, none⟩ = some (.int .i64 m)
theorem Laid.ext {w w' : World} (h : Laid w) (hx : Ext w w') : Laid w' := by
  refine ⟨?_, ?_⟩
  · have h1 := h.tab
    unfold Lib.TabIs World.var? at h1 ⊢
    cases hg : Tryd.prog.globalNamed "internal/strconv.uint64pow10" with
    | none => rw [hg] at h1; simp at h1
    | some g =>
      rw [hg] at h1
      simp only [Option.bind_some] at h1 ⊢
      have hlt : g < w.heap.size := by
        rcases Nat.lt_or_ge g w.heap.size with h2 | h2
        · exact h2
        · rw [Array.getElem?_eq_none h2] at h1; simp at h1
      rw [hx.block g hlt id]
      exact h1
  · obtain ⟨m, hm⟩ := h.max
    refine ⟨m, ?_⟩
    have hlt : 0 < w.heap.size := by
      rcases Nat.eq_zero_or_pos w.heap.size with h2 | h2
      · unfold World.cell? at hm
        simp [Array.getElem?_eq_none (Nat.le_of_eq h2)] at hm
      · exact h2
    unfold World.cell? at hm ⊢
    rw [show w'.heap[(⟨0, 0, none⟩ : Addr).block]? = w.heap[(⟨0, 0, none⟩ : Addr).block]? from hx.block 0 hlt id]
    exact hm
theorem ext_grow (w : World) (k : Nat) (os : Array Obj) : Ext w (Go.Sort.grow (w.drewN k) os) := by
  refine ⟨rfl, rfl, rfl, ?_, fun j hj _ => ?_⟩
  · show w.heap.size ≤ (w.heap ++ os).size
    rw [Array.size_append]; omega
  · show (w.heap ++ os)[j]? = _
    rw [Array.getElem?_append_left hj]
theorem itoa_le {n : Int} (h : I64 n) : (Lib.itoa n).length ≤ 21 := Lib.itoa_length_le n h.1 h.2
def NumPost (w : World) (n : Int) (e : Ending) (w' : World) : Prop := e = .returned (.string (mkStr (Lib.itoa n))) ∧ Ext w w'
set_option maxHeartbeats 400000 in
theorem line_num (w : World) (n : Int) (hn : I64 n) (hL : Laid w) : Calls Tryd.prog 21 #[.int .i64 n] w (NumPost w n) := by
  have HL := Lib.hid hL
  have HN := Lib.hid hn
  clear hL hn
  go_enter Tryd.func21, Tryd.ntmps21
  go_wp2_with fail
  refine (strconv_Itoa n HN.out.1 HN.out.2 w HL.out.tab).mono ?_
  rintro e w1 ⟨rfl, k, os, rfl⟩
  have HX := Lib.hid (ext_grow w k os)
  go_wp2
  go_ret
  exact ⟨rfl, HX.out⟩
set_option maxHeartbeats 400000 in
theorem ref_num (w : World) (n : Int) (hn : I64 n) (hL : Laid w) : Calls Tryd.prog 22 #[.int .i64 n] w (NumPost w n) := by
  have HL := Lib.hid hL
  have HN := Lib.hid hn
  clear hL hn
  go_enter Tryd.func22, Tryd.ntmps22
  go_wp2_with fail
  refine (strconv_Itoa n HN.out.1 HN.out.2 w HL.out.tab).mono ?_
  rintro e w1 ⟨rfl, k, os, rfl⟩
  have HX := Lib.hid (ext_grow w k os)
  go_wp2
  go_ret
  exact ⟨rfl, HX.out⟩
theorem toList_app (a b : ByteArray) : (a ++ b).toList = a.toList ++ b.toList := by rw [ByteArray.toList_eq, ByteArray.toList_eq, ByteArray.toList_eq]; simp [ByteArray.data_append]
theorem mk_app (a b : List UInt8) : mkStr a ++ mkStr b = mkStr (a ++ b) := toList_inj (by rw [toList_app, mkStr_toList, mkStr_toList, mkStr_toList])
theorem nil_toList : (⟨#[]⟩ : ByteArray).toList = [] := by rw [ByteArray.toList_eq]
theorem sp_toList : (⟨#[32]⟩ : ByteArray).toList = [32] := by rw [ByteArray.toList_eq]
theorem no_toList : (⟨#[110, 111, 32]⟩ : ByteArray).toList = [110, 111, 32] := by rw [ByteArray.toList_eq]
theorem ok_toList : (⟨#[111, 107]⟩ : ByteArray).toList = [111, 107] := by rw [ByteArray.toList_eq]
theorem size_toList (s : ByteArray) : s.toList.length = s.size := by rw [ByteArray.toList_eq]; simp
theorem ans_eq (a : Answer) (p q : ByteArray) (hp : p.toList = ansWord a) (hq : q.toList = ansTail a) : p ++ q = mkStr (ansLine a) := toList_inj (by rw [toList_app, hp, hq, mkStr_toList]; rfl)
theorem ans_eq3 (a : Answer) (p c q : ByteArray) (hp : p.toList = ansWord a) (hq : (c ++ q).toList = ansTail a) : p ++ c ++ q = mkStr (ansLine a) := toList_inj (by
  rw [toList_app] at hq
  rw [toList_app, toList_app, hp, List.append_assoc, hq, mkStr_toList]; rfl)
theorem ans_eq1 (a : Answer) (p : ByteArray) (hp : p.toList = ansWord a) (hq : (⟨#[]⟩ : ByteArray).toList = ansTail a) : p = mkStr (ansLine a) := toList_inj (by
  rw [nil_toList] at hq
  rw [hp, mkStr_toList]
  unfold ansLine
  rw [← hq, List.append_nil])
def AnsPost (w : World) (a : Answer) (e : Ending) (w' : World) : Prop := e = .returned (.string (mkStr (ansLine a))) ∧ Ext w w'
set_option maxHeartbeats 1000000 in
theorem line_answer (w : World) (a : Answer) (hc : I64 a.code) (ht : a.text.size ≤ 100000) (hL : Laid w) : Calls Tryd.prog 12 #[.agg a.cells] w (AnsPost w a) := by
  have HL := Lib.hid hL
  have HC := Lib.hid hc
  have hb : (w.alloc (.cells a.cells 25)).heap[w.heap.size]? = some (.cells a.cells 25 (0, 0)) := heap_alloc_new _ _
  have h0 := (cell_of hb 0).trans (show a.cells[0]? = some (.int .i64 a.code) from rfl)
  have h1 := (cell_of hb 1).trans (show a.cells[1]? = some (.string a.text) from rfl)
  have HX := Lib.hid (show Ext w (w.alloc (.cells a.cells 25)) from (Touch.refl _ w).alloc _)
  have HB := Lib.hid hb
  clear hL hc hb
  go_enter Tryd.func12, Tryd.ntmps12
  go_upto_region 2 with fail
  generalize w.alloc (.cells a.cells 25) = w1 at HX HB h0 h1 ⊢
  generalize w.heap.size = b at HB h0 h1 ⊢
  have hw : a.code ≠ 0 → (mkStr (Lib.itoa a.code)).size ≤ 21 := fun _ => by rw [mkStr_size]; exact itoa_le HC.out
  have HW := Lib.hid hw
  clear hw
  have hts : (a.text.size : Int) ≤ 100000 := by omega
  by_cases hcz : a.code = 0
  · have hk : (a.code == 0) = true := by simp [hcz]
    have hk' : (a.code != 0) = false := by simp [hcz]
    have HAW := Lib.hid (show (⟨#[111, 107]⟩ : ByteArray).toList = ansWord a by unfold ansWord; rw [if_pos hcz, ok_toList])
    by_cases he : a.text.toList = []
    · have he1 : a.text.toList.isEmpty = true := by simp [he]
      have he2 : ¬ 0 < a.text.size := by rw [← size_toList, he]; simp
      have HAT := Lib.hid (show (⟨#[]⟩ : ByteArray).toList = ansTail a by unfold ansTail; rw [if_pos he, nil_toList])
      clear hcz he
      go_wp2
      go_ret
      exact ⟨by first | exact congrArg (fun s => Ending.returned (Value.string s)) (ans_eq a _ _ HAW.out HAT.out) | exact congrArg (fun s => Ending.returned (Value.string s)) (ans_eq3 a _ _ _ HAW.out HAT.out) | exact congrArg (fun s => Ending.returned (Value.string s)) (ans_eq1 a _ HAW.out HAT.out), HX.out⟩
    · have he1 : a.text.toList.isEmpty = false := by simp [he]
      have he2 : 0 < a.text.size := by rw [← size_toList]; exact List.length_pos_iff.2 he
      have HAT := Lib.hid (show ((⟨#[32]⟩ : ByteArray) ++ a.text).toList = ansTail a by unfold ansTail; rw [if_neg he, toList_app, sp_toList]; rfl)
      clear hcz he
      go_wp2
      go_ret
      exact ⟨by first | exact congrArg (fun s => Ending.returned (Value.string s)) (ans_eq a _ _ HAW.out HAT.out) | exact congrArg (fun s => Ending.returned (Value.string s)) (ans_eq3 a _ _ _ HAW.out HAT.out) | exact congrArg (fun s => Ending.returned (Value.string s)) (ans_eq1 a _ HAW.out HAT.out), HX.out⟩
  · have hk : (a.code == 0) = false := by simp [hcz]
    have hk' : (a.code != 0) = true := by simp [hcz]
    have hsz := HW.out hcz
    have HAW := Lib.hid (show ((⟨#[110, 111, 32]⟩ : ByteArray) ++ mkStr (Lib.itoa a.code)).toList = ansWord a by unfold ansWord; rw [if_neg hcz, toList_app, mkStr_toList, no_toList])
    generalize hq : mkStr (Lib.itoa a.code) = num at *
    have HQ := Lib.hid hq
    clear hcz hq
    go_wp2_with fail
    refine (line_num w1 a.code HC.out (HL.out.ext HX.out)).mono ?_
    rw [show NumPost w1 a.code = fun e w' => e = .returned (.string num) ∧ Ext w1 w' from by unfold NumPost; rw [HQ.out]]
    rintro e w2 ⟨rfl, hx2⟩
    have hb2 := hx2.blk HB.out id
    have h0' := (cell_of hb2 0).trans (show a.cells[0]? = some (.int .i64 a.code) from rfl)
    have h1' := (cell_of hb2 1).trans (show a.cells[1]? = some (.string a.text) from rfl)
    have HX2 := Lib.hid (HX.out.trans hx2)
    clear hx2 hb2 h0 h1
    by_cases he : a.text.toList = []
    · have he1 : a.text.toList.isEmpty = true := by simp [he]
      have he2 : ¬ 0 < a.text.size := by rw [← size_toList, he]; simp
      have HAT := Lib.hid (show (⟨#[]⟩ : ByteArray).toList = ansTail a by unfold ansTail; rw [if_pos he, nil_toList])
      clear he
      go_wp2
      go_ret
      exact ⟨by first | exact congrArg (fun s => Ending.returned (Value.string s)) (ans_eq a _ _ HAW.out HAT.out) | exact congrArg (fun s => Ending.returned (Value.string s)) (ans_eq3 a _ _ _ HAW.out HAT.out) | exact congrArg (fun s => Ending.returned (Value.string s)) (ans_eq1 a _ HAW.out HAT.out), HX2.out⟩
    · have he1 : a.text.toList.isEmpty = false := by simp [he]
      have he2 : 0 < a.text.size := by rw [← size_toList]; exact List.length_pos_iff.2 he
      have HAT := Lib.hid (show ((⟨#[32]⟩ : ByteArray) ++ a.text).toList = ansTail a by unfold ansTail; rw [if_neg he, toList_app, sp_toList]; rfl)
      clear he
      go_wp2
      go_ret
      exact ⟨by first | exact congrArg (fun s => Ending.returned (Value.string s)) (ans_eq a _ _ HAW.out HAT.out) | exact congrArg (fun s => Ending.returned (Value.string s)) (ans_eq3 a _ _ _ HAW.out HAT.out) | exact congrArg (fun s => Ending.returned (Value.string s)) (ans_eq1 a _ HAW.out HAT.out), HX2.out⟩
set_option maxHeartbeats 1000000 in
theorem ref_answer (w : World) (a : Answer) (hc : I64 a.code) (ht : a.text.size ≤ 100000) (hL : Laid w) : Calls Tryd.prog 13 #[.agg a.cells] w (AnsPost w a) := by
  have HL := Lib.hid hL
  have HC := Lib.hid hc
  have hb : (w.alloc (.cells a.cells 25)).heap[w.heap.size]? = some (.cells a.cells 25 (0, 0)) := heap_alloc_new _ _
  have h0 := (cell_of hb 0).trans (show a.cells[0]? = some (.int .i64 a.code) from rfl)
  have h1 := (cell_of hb 1).trans (show a.cells[1]? = some (.string a.text) from rfl)
  have HX := Lib.hid (show Ext w (w.alloc (.cells a.cells 25)) from (Touch.refl _ w).alloc _)
  have HB := Lib.hid hb
  clear hL hc hb
  go_enter Tryd.func13, Tryd.ntmps13
  go_upto_region 2 with fail
  generalize w.alloc (.cells a.cells 25) = w1 at HX HB h0 h1 ⊢
  generalize w.heap.size = b at HB h0 h1 ⊢
  have hw : a.code ≠ 0 → (mkStr (Lib.itoa a.code)).size ≤ 21 := fun _ => by rw [mkStr_size]; exact itoa_le HC.out
  have HW := Lib.hid hw
  clear hw
  have hts : (a.text.size : Int) ≤ 100000 := by omega
  by_cases hcz : a.code = 0
  · have hk : (a.code == 0) = true := by simp [hcz]
    have hk' : (a.code != 0) = false := by simp [hcz]
    have HAW := Lib.hid (show (⟨#[111, 107]⟩ : ByteArray).toList = ansWord a by unfold ansWord; rw [if_pos hcz, ok_toList])
    by_cases he : a.text.toList = []
    · have he1 : a.text.toList.isEmpty = true := by simp [he]
      have he2 : ¬ 0 < a.text.size := by rw [← size_toList, he]; simp
      have HAT := Lib.hid (show (⟨#[]⟩ : ByteArray).toList = ansTail a by unfold ansTail; rw [if_pos he, nil_toList])
      clear hcz he
      go_wp2
      go_ret
      exact ⟨by first | exact congrArg (fun s => Ending.returned (Value.string s)) (ans_eq a _ _ HAW.out HAT.out) | exact congrArg (fun s => Ending.returned (Value.string s)) (ans_eq3 a _ _ _ HAW.out HAT.out) | exact congrArg (fun s => Ending.returned (Value.string s)) (ans_eq1 a _ HAW.out HAT.out), HX.out⟩
    · have he1 : a.text.toList.isEmpty = false := by simp [he]
      have he2 : 0 < a.text.size := by rw [← size_toList]; exact List.length_pos_iff.2 he
      have HAT := Lib.hid (show ((⟨#[32]⟩ : ByteArray) ++ a.text).toList = ansTail a by unfold ansTail; rw [if_neg he, toList_app, sp_toList]; rfl)
      clear hcz he
      go_wp2
      go_ret
      exact ⟨by first | exact congrArg (fun s => Ending.returned (Value.string s)) (ans_eq a _ _ HAW.out HAT.out) | exact congrArg (fun s => Ending.returned (Value.string s)) (ans_eq3 a _ _ _ HAW.out HAT.out) | exact congrArg (fun s => Ending.returned (Value.string s)) (ans_eq1 a _ HAW.out HAT.out), HX.out⟩
  · have hk : (a.code == 0) = false := by simp [hcz]
    have hk' : (a.code != 0) = true := by simp [hcz]
    have hsz := HW.out hcz
    have HAW := Lib.hid (show ((⟨#[110, 111, 32]⟩ : ByteArray) ++ mkStr (Lib.itoa a.code)).toList = ansWord a by unfold ansWord; rw [if_neg hcz, toList_app, mkStr_toList, no_toList])
    generalize hq : mkStr (Lib.itoa a.code) = num at *
    have HQ := Lib.hid hq
    clear hcz hq
    go_wp2_with fail
    refine (ref_num w1 a.code HC.out (HL.out.ext HX.out)).mono ?_
    rw [show NumPost w1 a.code = fun e w' => e = .returned (.string num) ∧ Ext w1 w' from by unfold NumPost; rw [HQ.out]]
    rintro e w2 ⟨rfl, hx2⟩
    have hb2 := hx2.blk HB.out id
    have h0' := (cell_of hb2 0).trans (show a.cells[0]? = some (.int .i64 a.code) from rfl)
    have h1' := (cell_of hb2 1).trans (show a.cells[1]? = some (.string a.text) from rfl)
    have HX2 := Lib.hid (HX.out.trans hx2)
    clear hx2 hb2 h0 h1
    by_cases he : a.text.toList = []
    · have he1 : a.text.toList.isEmpty = true := by simp [he]
      have he2 : ¬ 0 < a.text.size := by rw [← size_toList, he]; simp
      have HAT := Lib.hid (show (⟨#[]⟩ : ByteArray).toList = ansTail a by unfold ansTail; rw [if_pos he, nil_toList])
      clear he
      go_wp2
      go_ret
      exact ⟨by first | exact congrArg (fun s => Ending.returned (Value.string s)) (ans_eq a _ _ HAW.out HAT.out) | exact congrArg (fun s => Ending.returned (Value.string s)) (ans_eq3 a _ _ _ HAW.out HAT.out) | exact congrArg (fun s => Ending.returned (Value.string s)) (ans_eq1 a _ HAW.out HAT.out), HX2.out⟩
    · have he1 : a.text.toList.isEmpty = false := by simp [he]
      have he2 : 0 < a.text.size := by rw [← size_toList]; exact List.length_pos_iff.2 he
      have HAT := Lib.hid (show ((⟨#[32]⟩ : ByteArray) ++ a.text).toList = ansTail a by unfold ansTail; rw [if_neg he, toList_app, sp_toList]; rfl)
      clear he
      go_wp2
      go_ret
      exact ⟨by first | exact congrArg (fun s => Ending.returned (Value.string s)) (ans_eq a _ _ HAW.out HAT.out) | exact congrArg (fun s => Ending.returned (Value.string s)) (ans_eq3 a _ _ _ HAW.out HAT.out) | exact congrArg (fun s => Ending.returned (Value.string s)) (ans_eq1 a _ HAW.out HAT.out), HX2.out⟩
end Go.Proofs.YtalfbhhldfffkabDoor
