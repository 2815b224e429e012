/- Line2: the reference's word; the package line's words; slices.Index at texts; strings.SplitN at a blank and 3. -/
import Derived.Test.YtalfbhhldfffkabDoorLine1
import Derived.Test.YtalfbhhldfffkabDoorMem
import Derived.Deep.RegionHeld3
namespace Go.Proofs.YtalfbhhldfffkabDoor
open Go.RowKit

theorem getElem_toList {s : ByteArray} {k : Nat} (h : k < s.size) : s.toList[k]? = some s[k] := by
  rw [ByteArray.toList_eq, List.getElem?_eq_getElem (by simpa using h)]
  congr 1
theorem extract_take (s : ByteArray) (k : Nat) (_hk : k ≤ s.size) : s.extract 0 k = mkStr (s.toList.take k) := toList_inj (by
  rw [mkStr_toList, ByteArray.toList_eq, ByteArray.toList_eq]
  simp)
theorem extract_drop (s : ByteArray) (k : Nat) : s.extract k s.size = mkStr (s.toList.drop k) := toList_inj (by
  rw [mkStr_toList, ByteArray.toList_eq, ByteArray.toList_eq, ByteArray.data_extract, Array.toList_extract]
  simp [List.extract]
  rw [List.take_of_length_le]
  simp)
theorem word_hit {s : ByteArray} {k : Nat} (hk : k < s.size) (hn : NoBlank (s.toList.take k)) (hb : s[k] = 32) : wordOf s.toList = (s.toList.take k, s.toList.drop (k + 1), true) := by
  have h1 : s.toList = s.toList.take k ++ 32 :: s.toList.drop (k + 1) := by
    have h2 := getElem_toList hk
    rw [hb] at h2
    obtain ⟨hl, he⟩ := List.getElem?_eq_some_iff.1 h2
    conv => lhs; rw [← List.take_append_drop k s.toList, List.drop_eq_getElem_cons hl, he]
  conv => lhs; rw [h1]
  exact wordOf_append hn _
theorem noBlank_next {s : ByteArray} {k : Nat} (hk : k < s.size) (hn : NoBlank (s.toList.take k)) (hb : s[k] ≠ 32) : NoBlank (s.toList.take (k + 1)) := fun b hm => by
  rw [List.take_add_one, getElem_toList hk] at hm
  rcases List.mem_append.1 hm with hm | hm
  · exact hn b hm
  · have : b = s[k] := by simpa using hm
    rw [this]; exact hb
theorem u8_32 {b : UInt8} : ((b.toNat : Int) = 32) ↔ b = 32 := by
  constructor
  · intro h
    exact UInt8.toNat_inj.1 (by show b.toNat = 32; omega)
  · intro h
    subst h
    rfl
def WordPost (w : World) (s : ByteArray) (e : Ending) (w' : World) : Prop := e = .returned (.tuple #[.string (mkStr (wordOf s.toList).1), .string (mkStr (wordOf s.toList).2.1), .bool (wordOf s.toList).2.2]) ∧ Ext w w'
set_option maxHeartbeats 1000000 in
theorem ref_word (w : World) (s : ByteArray) (hs : s.size ≤ 100000) : Calls Tryd.prog 20 #[.string s] w (WordPost w s) := by
  go_enter Tryd.func20, Tryd.ntmps20
  go_wp2_with fail
  go_loopw [5] (fun i wr => ∃ k : Nat, i = .int .i64 k ∧ k ≤ s.size ∧ NoBlank (s.toList.take k) ∧ wr = w) (fun i _ => s.size - (intOf i).toNat)
  case atStart => exact ⟨0, rfl, Nat.zero_le _, fun b hb => by simp at hb, rfl⟩
  case round =>
    obtain ⟨k, rfl, hk, hn, rfl⟩ := hrel
    have HN := Lib.hid hn
    clear hn
    by_cases hlt : k < s.size
    · by_cases hb : s[k] = 32
      · have HW := Lib.hid (word_hit hlt HN.out hb)
        have hb' : ((s[k].toNat : Int) == 32) = true := by rw [beq_iff_eq]; exact u8_32.2 hb
        have HE1 := Lib.hid (extract_take s k (by omega))
        have HE2 := Lib.hid (extract_drop s (k + 1))
        have hwr : IntKind.i64.wrap ((k : Int) + 1) = (k : Int) + 1 := IntWalk.i64_in _ (by omega)
        have hk1 : (k : Int) + 1 ≤ s.size := by omega
        have hk0 : (0 : Int) ≤ (k : Int) + 1 := by omega
        have hk2 : ((k : Int) + 1).toNat = k + 1 := by omega
        clear hb
        go_wp2_with fail
        refine wp_region_held_drew (S := fun w' => Ext wr w') (by kernel_rfl) (Touch.drew (Touch.refl _ wr)) (fun hHeld => ?_)
        refine wpAnyH_take (i := 0) (v := ?_) (List.getElem?_toArray.trans rfl) (by kernel_rfl) (by kernel_rfl) (by kernel_rfl) (fun _ _ _ h => h) (Or.inl ⟨by rfl, ?_⟩) (by assumption) ?_
        rotate_left
        · intro w' hw'
          try dsimp only at hw'
          skip
          go_simp
          try with_reducible rfl
        try simp only [Act.put, List.setIfInBounds_toArray, List.set_cons_zero, List.set_cons_succ]
        refine wpAnyH_take (i := 1) (v := ?_) (List.getElem?_toArray.trans rfl) (by kernel_rfl) (by kernel_rfl) (by kernel_rfl) (fun _ _ _ h => h) (Or.inl ⟨by rfl, ?_⟩) (by assumption) ?_
        rotate_left
        · intro w' hw'
          try dsimp only at hw'
          skip
          go_simp
          try with_reducible rfl
        try simp only [Act.put, List.setIfInBounds_toArray, List.set_cons_zero, List.set_cons_succ]
        refine wpAnyH_take (i := 2) (v := ?_) (List.getElem?_toArray.trans rfl) (by kernel_rfl) (by kernel_rfl) (by kernel_rfl) (fun _ _ _ h => h) (Or.inl ⟨by rfl, ?_⟩) (by assumption) ?_
        rotate_left
        · intro w' hw'
          try dsimp only at hw'
          skip
          go_simp
          try with_reducible rfl
        try simp only [Act.put, List.setIfInBounds_toArray, List.set_cons_zero, List.set_cons_succ]
        refine wpAnyH_take (i := 3) (v := ?_) (List.getElem?_toArray.trans rfl) (by kernel_rfl) (by kernel_rfl) (by kernel_rfl) (fun _ _ _ h => h) (Or.inl ⟨by rfl, ?_⟩) (by assumption) ?_
        rotate_left
        · intro w' hw'
          try dsimp only at hw'
          skip
          go_simp
          try with_reducible rfl
        try simp only [Act.put, List.setIfInBounds_toArray, List.set_cons_zero, List.set_cons_succ]
        refine wpAnyH_take (i := 4) (v := ?_) (List.getElem?_toArray.trans rfl) (by kernel_rfl) (by kernel_rfl) (by kernel_rfl) (fun _ _ _ h => h) (Or.inl ⟨by rfl, ?_⟩) (by assumption) ?_
        rotate_left
        · intro w' hw'
          try dsimp only at hw'
          skip
          go_simp
          try with_reducible rfl
        try simp only [Act.put, List.setIfInBounds_toArray, List.set_cons_zero, List.set_cons_succ]
        refine wpAnyH_take (i := 5) (v := ?_) (List.getElem?_toArray.trans rfl) (by kernel_rfl) (by kernel_rfl) (by kernel_rfl) (fun _ _ _ h => h) (Or.inl ⟨by rfl, ?_⟩) (by assumption) ?_
        rotate_left
        · intro w' hw'
          try dsimp only at hw'
          skip
          go_simp
          try with_reducible rfl
        try simp only [Act.put, List.setIfInBounds_toArray, List.set_cons_zero, List.set_cons_succ]
        refine wpAnyH_take (i := 6) (v := ?_) (List.getElem?_toArray.trans rfl) (by kernel_rfl) (by kernel_rfl) (by kernel_rfl) (fun _ _ _ h => h) (Or.inl ⟨by rfl, ?_⟩) (by assumption) ?_
        rotate_left
        · intro w' hw'
          try dsimp only at hw'
          skip
          go_simp
          try with_reducible rfl
        try simp only [Act.put, List.setIfInBounds_toArray, List.set_cons_zero, List.set_cons_succ]
        refine wpAnyH_take (i := 7) (v := ?_) (List.getElem?_toArray.trans rfl) (by kernel_rfl) (by kernel_rfl) (by kernel_rfl) (fun _ _ _ h => h) (Or.inl ⟨by rfl, ?_⟩) (by assumption) ?_
        rotate_left
        · intro w' hw'
          try dsimp only at hw'
          skip
          go_simp
          try with_reducible rfl
        try simp only [Act.put, List.setIfInBounds_toArray, List.set_cons_zero, List.set_cons_succ]
        refine wpAnyH_take (i := 8) (v := ?_) (List.getElem?_toArray.trans rfl) (by kernel_rfl) (by kernel_rfl) (by kernel_rfl) (fun _ _ _ h => h) (Or.inl ⟨by rfl, ?_⟩) (by assumption) ?_
        rotate_left
        · intro w' hw'
          try dsimp only at hw'
          skip
          go_simp
          try with_reducible rfl
        try simp only [Act.put, List.setIfInBounds_toArray, List.set_cons_zero, List.set_cons_succ]
        refine wpAnyH_take (i := 9) (v := ?_) (List.getElem?_toArray.trans rfl) (by kernel_rfl) (by kernel_rfl) (by kernel_rfl) (fun _ _ _ h => h) (Or.inl ⟨by rfl, ?_⟩) (by assumption) ?_
        rotate_left
        · intro w' hw'
          try dsimp only at hw'
          skip
          go_simp
          try with_reducible rfl
        try simp only [Act.put, List.setIfInBounds_toArray, List.set_cons_zero, List.set_cons_succ]
        refine wpAnyH_done (by kernel_rfl) ?_ _
        clear hHeld
        go_wp2
        go_ret3
        unfold WordPost
        rw [HW.out, ← HE1.out, ← HE2.out]
        exact ⟨rfl, (Touch.refl _ _).drewN _⟩
      · have HB := Lib.hid hb
        have hb' : ((s[k].toNat : Int) == 32) = false := by rw [beq_eq_false_iff_ne]; exact fun e => hb (u8_32.1 e)
        clear hb
        go_wp2
        go_roundw
        case rel => exact ⟨k + 1, by go_num, by omega, noBlank_next hlt HN.out HB.out, by trivial⟩
        case measure => simp [intOf]; omega
    · obtain rfl : k = s.size := by omega
      have HW := Lib.hid (wordOf_none (w := s.toList) (by have := HN.out; rwa [List.take_of_length_le (by rw [size_toList]; omega)] at this))
      go_wp2
      go_ret3
      unfold WordPost
      rw [HW.out]
      exact ⟨by rw [mkStr_of]; rfl, Touch.refl _ _⟩
set_option maxHeartbeats 400000 in
theorem line_words (w : World) : Calls Tryd.prog 15 #[] w (NewList w 9 wordsL) := by
  go_enter Tryd.func15, Tryd.ntmps15
  go_wp2
  go_ret
  exact ⟨some ⟨w.heap.size, 0, none⟩, 7, rfl, own_take_drop (heap_alloc_new _ _) rfl (by decide) (by decide) rfl rfl, (Touch.refl _ w).alloc _, fun k hk => by simp [Value.ownBlock] at hk; omega⟩
theorem idx_here {l : List ByteArray} {v : ByteArray} {k : Nat} (hn : idxUpto l v k) (hk : l[k]? = some v) : idxOf l v = k := by
  obtain ⟨hl, he⟩ := List.getElem?_eq_some_iff.1 hk
  have : l.findIdx? (fun x => decide (x = v)) = some k := List.findIdx?_eq_some_iff_getElem.2 ⟨hl, by simpa using he, fun j hj => by
    simpa using hn l[j] (List.mem_take_iff_getElem.2 ⟨j, by omega, rfl⟩)⟩
  unfold idxOf
  rw [this]
theorem idx_none {l : List ByteArray} {v : ByteArray} (hn : idxUpto l v l.length) : idxOf l v = -1 := by
  have : l.findIdx? (fun x => decide (x = v)) = none := List.findIdx?_eq_none_iff.2 fun x hx => by
    simpa using hn x (by rwa [List.take_length])
  unfold idxOf
  rw [this]
theorem bytes_beq {a b : ByteArray} : (a.toList == b.toList) = decide (a = b) := by
  by_cases h : a = b
  · subst h; simp
  · have : a.toList ≠ b.toList := fun e => h (toList_inj e)
    simp [h, this]
set_option maxHeartbeats 1000000 in
theorem index_texts (w : World) (B : Nat) (A : Option Addr) (c : Nat) (l : List ByteArray) (v : ByteArray) (hr : Reads w B A l) (hl : l.length ≤ 100000) :
    Calls Tryd.prog 19 #[.slice A l.length c, .string v] w fun e w' => e = .returned (.int .i64 (idxOf l v)) ∧ w' = w := by
  have HR := Lib.hid hr
  clear hr
  go_enter Tryd.func19, Tryd.ntmps19
  go_wp2_with fail
  go_loopw [8] (fun i wr => ∃ k : Nat, i = .int .i64 k ∧ k ≤ l.length ∧ idxUpto l v k ∧ wr = w) (fun i _ => l.length - (intOf i).toNat)
  case atStart => exact ⟨0, rfl, Nat.zero_le _, fun x hx => by simp at hx, rfl⟩
  case round =>
    obtain ⟨k, rfl, hk, hn, rfl⟩ := hrel
    have HN := Lib.hid hn
    clear hn
    by_cases hlt : k < l.length
    · obtain ⟨x, hx⟩ : ∃ x, l[k]? = some x := ⟨l[k], by simp [hlt]⟩
      have HX := Lib.hid hx
      obtain ⟨ad, rfl, hb, hat⟩ := HR.out _ x hx
      have h1 := hat 0 _ rfl
      have h2 : wr.cell? (ad.add (k * 1)) = some (.string x) := by
        have h3 : ((ad.add (k * Lies.size ByteArray)).add 0) = ad.add (k * 1) := by
          show ((ad.add (k * 1)).add 0) = _
          unfold Addr.add; split <;> split <;> simp_all
        rw [← h3]; exact h1
      have h4 : wr.cell? (ad.add k) = some (.string x) := by rw [← h2, Nat.mul_one]
      clear hx hat h1
      by_cases hv : x = v
      · subst hv
        have he : (x.toList == x.toList) = true := by simp
        have HI := Lib.hid (idx_here HN.out HX.out)
        go_wp2
        go_ret
        exact ⟨by rw [HI.out]; rfl, rfl⟩
      · have he : (v.toList == x.toList) = false := by rw [bytes_beq]; exact decide_eq_false fun e => hv e.symm
        have HV := Lib.hid hv
        clear hv
        go_wp2
        go_roundw
        case rel =>
          refine ⟨k + 1, by go_num, by omega, fun y hy => ?_, by trivial⟩
          rw [List.take_add_one, HX.out] at hy
          rcases List.mem_append.1 hy with hy | hy
          · exact HN.out y hy
          · have : y = x := by simpa using hy
            rw [this]; exact HV.out
        case measure => simp [intOf]; omega
    · obtain rfl : k = l.length := by omega
      have HI := Lib.hid (idx_none HN.out)
      go_wp2
      go_ret
      exact ⟨by rw [HI.out]; rfl, rfl⟩
def piecesB (s : ByteArray) : List ByteArray := (pieces s.toList).map mkStr
theorem splitB_pieces (s : ByteArray) : Lib.splitB ⟨#[32]⟩ 0 (min 3 (s.size + 1) - 1) s = piecesB s := by
  have h1 := Lib.splitB_data ⟨#[32]⟩ 0 (min 3 (s.size + 1) - 1) s
  rw [← ByteArray.toList_eq s] at h1
  have h2 := pieces_split s.toList
  rw [size_toList] at h2
  have h3 : (Lib.splitB ⟨#[32]⟩ 0 (min 3 (s.size + 1) - 1) s).map (fun x => x.data.toList) = pieces s.toList := h1.trans h2
  unfold piecesB
  rw [← h3, List.map_map]
  conv => lhs; rw [← List.map_id (Lib.splitB ⟨#[32]⟩ 0 (min 3 (s.size + 1) - 1) s)]
  refine List.map_congr_left fun x _ => ?_
  show x = mkStr x.data.toList
  rw [← ByteArray.toList_eq, mkStr_of]
theorem split_line (w : World) (s : ByteArray) (hs : s.size ≤ 100000) (hL : Laid w) : Calls Tryd.prog 18 #[.string s, .string ⟨#[32]⟩, .int .i64 3] w (NewList w 9 (piecesB s)) := by
  obtain ⟨m, hm⟩ := hL.max
  have hle := Lib.splitB_length_le ⟨#[32]⟩ 0 (min 3 (s.size + 1) - 1) s
  refine (strings_SplitN s ⟨#[32]⟩ 3 m w (by omega) hm (by decide) (by decide) (by decide)).mono ?_
  rw [splitB_pieces] at hle ⊢
  rintro e w' ⟨rfl, rfl⟩
  have hN : (piecesB s).length ≤ min 3 (s.size + 1) := by omega
  refine ⟨some ⟨w.heap.size, 0, none⟩, _, rfl, own_take_drop (heap_alloc_new _ _) rfl hN (by unfold maxLen; omega) ?_ ?_, (Touch.refl _ w).alloc _, fun k hk => by simp [Value.ownBlock] at hk; omega⟩
  · rw [Lib.cellsOf_size hN]; simp [Lies.size]
  · unfold Lib.cellsOf
    have e : flat (piecesB s) = (piecesB s).map Value.string := by
      generalize piecesB s = l
      induction l with
      | nil => rfl
      | cons x l ih => rw [List.map_cons, ← ih]; rfl
    rw [e]
    rw [show (piecesB s).length * Lies.size ByteArray = ((piecesB s).map Value.string).length by simp [Lies.size]]
    simp
end Go.Proofs.YtalfbhhldfffkabDoor
