/- FilesLaw: the laws of files, in plain terms. No program is walked here. -/
import Derived.Test.YtalfbhhldfffkabDrawer2
namespace Go.Proofs.Ytalfbhhldfffkab
open Go.RowKit

/-! ### FilesApart -/
def others (c : Call) (f : FileD) : Bool := decide (f.name ≠ c.name) && decide (f.name ≠ c.to_)
theorem filter_eq {l r : List FileD} (hl : Sorted l) (hr : Sorted r) {p : FileD → Bool} (h : (l.filter p).Perm (r.filter p)) : l.filter p = r.filter p :=
  Sorted.eq (List.Pairwise.sublist List.filter_sublist hl) (List.Pairwise.sublist List.filter_sublist hr) h
theorem others_name {c : Call} {x : FileD} (h : x.name = c.name) : others c x = false := by simp [others, h]
theorem others_to {c : Call} {x : FileD} (h : x.name = c.to_) : others c x = false := by simp [others, h]
theorem erase_filter {l : List FileD} {i : Nat} {x : FileD} {p : FileD → Bool} (hx : l[i]? = some x) (hp : p x = false) : ((l.eraseIdx i).filter p).Perm (l.filter p) := by
  have h := (perm_cons_eraseIdx hx).filter p
  rw [List.filter_cons_of_neg (by simp [hp])] at h
  exact h.symm
/-- a call that may change something, and has no code, leaves all files that it does not name -/
theorem fdo_apart {l : List FileD} (hl : FOk l) (c : Call) : (fdo l c).2.filter (others c) = l.filter (others c) := by
  have hok := fdo_ok hl c
  have hw := fdo_way l c
  refine filter_eq hok.srt hl.srt ?_
  generalize fdo l c = r at hw hok
  rcases hw with ⟨k, _, rfl⟩ | ⟨_, _, rfl⟩ | ⟨h0, h, hn, hlen, rfl⟩ | ⟨_, _, i, x, hi, hx, e, rfl⟩ | ⟨h0, h, i, x, hi, hx, e, hs, rfl⟩ | ⟨h0, h, i, x, hi, hx, e, ht, rfl⟩ | ⟨h0, h, i, x, hi, hx, e, rfl⟩
  · exact .refl _
  · exact .refl _
  · have h1 := (insAt_perm l ⟨c.name, noText⟩).filter (others c)
    rw [List.filter_cons_of_neg (by simp [others])] at h1
    exact h1
  · exact .refl _
  · have h1 := (perm_set (y := (⟨x.name, x.text ++ c.text⟩ : FileD)) (List.getElem?_eq_some_iff.1 hx).1).filter (others c)
    rw [List.filter_cons_of_neg (by simp [others, e])] at h1
    exact h1.trans (erase_filter hx (others_name e))
  · have h1 := (insAt_perm (l.eraseIdx i) ⟨c.to_, x.text⟩).filter (others c)
    rw [List.filter_cons_of_neg (by simp [others])] at h1
    exact h1.trans (erase_filter hx (others_name e))
  · exact erase_filter hx (others_name e)
/-- behind a code, and behind a call that only asks, all is as it was -/
theorem fdo_same {l : List FileD} {c : Call} (h : (fdo l c).1.code ≠ 0 ∨ ¬ (1 ≤ c.kind ∧ c.kind ≤ 4)) : (fdo l c).2 = l := by
  have hw := fdo_way l c
  generalize fdo l c = r at hw h
  rcases hw with ⟨k, _, rfl⟩ | ⟨_, _, rfl⟩ | ⟨h0, hk, hn, hlen, rfl⟩ | ⟨_, _, i, x, hi, hx, e, rfl⟩ | ⟨h0, hk, i, x, hi, hx, e, hs, rfl⟩ | ⟨h0, hk, i, x, hi, hx, e, ht, rfl⟩ | ⟨h0, hk, i, x, hi, hx, e, rfl⟩
  · rfl
  · rfl
  · rcases h with h | h
    · exact (h rfl).elim
    · omega
  · rfl
  · rcases h with h | h
    · exact (h rfl).elim
    · omega
  · rcases h with h | h
    · exact (h rfl).elim
    · omega
  · rcases h with h | h
    · exact (h rfl).elim
    · omega
/-- with a code no text is told -/
theorem fdo_code_text {l : List FileD} {c : Call} (h : (fdo l c).1.code ≠ 0) : (fdo l c).1.text = noText := by
  have hw := fdo_way l c
  generalize fdo l c = r at hw h
  rcases hw with ⟨k, _, rfl⟩ | ⟨_, _, rfl⟩ | ⟨h0, hk, hn, hlen, rfl⟩ | ⟨_, _, i, x, hi, hx, e, rfl⟩ | ⟨h0, hk, i, x, hi, hx, e, hs, rfl⟩ | ⟨h0, hk, i, x, hi, hx, e, ht, rfl⟩ | ⟨h0, hk, i, x, hi, hx, e, rfl⟩
  · rfl
  all_goals exact (h rfl).elim

/-! ### FilesBack -/
def renameOf (n t : ByteArray) : Call := ⟨3, n, t, noText⟩
def makeOf (n : ByteArray) : Call := ⟨1, n, noText, noText⟩
def removeOf (n : ByteArray) : Call := ⟨2, n, noText, noText⟩
def appendOf (n t : ByteArray) : Call := ⟨4, n, noText, t⟩
theorem callCode_rename {n t : ByteArray} (h : okText 97 122 5 n = true) (h' : okText 97 122 5 t = true) : callCode (renameOf n t) = 0 := by
  unfold callCode renameOf
  simp [h, h', noText_toList]
theorem callCode_remove {n : ByteArray} (h : okText 97 122 5 n = true) : callCode (removeOf n) = 0 := by
  unfold callCode removeOf
  simp [h, noText_toList]
/-- the ways of a call of one kind -/
theorem fdo_rename {l : List FileD} {n t : ByteArray} (hc : callCode (renameOf n t) = 0) {i : Nat} {x : FileD} (hi : dAt l n = some i) (hx : l[i]? = some x) (ht : dAt l t = none) : fdo l (renameOf n t) = (ans 0, insAt (l.eraseIdx i) ⟨t, x.text⟩) := by
  unfold fdo
  rw [if_neg (by simp [hc])]
  show (if (3 : Int) = 6 then _ else if (3 : Int) = 1 then _ else match dAt l n with | none => _ | some i => match l[i]? with | none => _ | some x => if (3 : Int) = 5 then _ else if (3 : Int) = 4 then _ else if (3 : Int) = 3 then (match dAt l t with | some _ => _ | none => _) else _) = _
  rw [if_neg (by decide), if_neg (by decide), hi]
  simp only [hx]
  rw [if_neg (by decide), if_neg (by decide), if_pos (by decide), ht]
  rfl
theorem fdo_remove {l : List FileD} {n : ByteArray} (hc : callCode (removeOf n) = 0) {i : Nat} {x : FileD} (hi : dAt l n = some i) (hx : l[i]? = some x) : fdo l (removeOf n) = (ans 0, l.eraseIdx i) := by
  unfold fdo
  rw [if_neg (by simp [hc])]
  show (if (2 : Int) = 6 then _ else if (2 : Int) = 1 then _ else match dAt l n with | none => _ | some i => match l[i]? with | none => _ | some x => if (2 : Int) = 5 then _ else if (2 : Int) = 4 then _ else if (2 : Int) = 3 then _ else _) = _
  rw [if_neg (by decide), if_neg (by decide), hi]
  simp only [hx]
  rw [if_neg (by decide), if_neg (by decide), if_neg (by decide)]
theorem insAt_at {l : List FileD} (hl : Sorted l) {x : FileD} (h : dAt l x.name = none) : ∃ j, dAt (insAt l x) x.name = some j ∧ (insAt l x)[j]? = some x := by
  have hm : x ∈ insAt l x := (insAt_perm l x).mem_iff.2 (by simp)
  obtain ⟨j, hj, e⟩ := List.getElem_of_mem hm
  have hj' : (insAt l x)[j]? = some x := by rw [List.getElem?_eq_getElem hj, e]
  exact ⟨j, dAt_of (insAt_sorted hl (dAt_none h)).names hj', hj'⟩
/-- renamed, and renamed back: as it was -/
theorem fdo_back {l : List FileD} (hl : FOk l) {n t : ByteArray} (h : (fdo l (renameOf n t)).1.code = 0) : (fdo (fdo l (renameOf n t)).2 (renameOf t n)).1.code = 0 ∧ (fdo (fdo l (renameOf n t)).2 (renameOf t n)).2 = l := by
  have hw := fdo_way l (renameOf n t)
  have hok := fdo_ok hl (renameOf n t)
  generalize fdo l (renameOf n t) = r at hw h hok
  rcases hw with ⟨k, hk, rfl⟩ | ⟨_, hk, rfl⟩ | ⟨h0, hk, hn, hlen, rfl⟩ | ⟨_, hk, i, x, hi, hx, e, rfl⟩ | ⟨h0, hk, i, x, hi, hx, e, hs, rfl⟩ | ⟨h0, hk, i, x, hi, hx, e, ht, rfl⟩ | ⟨h0, hk, i, x, hi, hx, e, rfl⟩
  · exact absurd h (show ¬ k = 0 by omega)
  · exact absurd (show (3 : Int) = 6 from hk) (by decide)
  · exact absurd (show (3 : Int) = 1 from hk) (by decide)
  · exact absurd (show (3 : Int) = 5 from hk) (by decide)
  · exact absurd (show (3 : Int) = 4 from hk) (by decide)
  · have e' : x.name = n := e
    have ht' : dAt l t = none := ht
    have hse := hl.srt.erase i
    obtain ⟨j, hj, hjx⟩ := insAt_at (x := (⟨t, x.text⟩ : FileD)) hse (dAt_erase ht')
    have hnt : n ≠ t := fun e2 => dAt_none ht' x (List.mem_of_getElem? hx) (by rw [e', e2])
    have hc2 : callCode (renameOf t n) = 0 := callCode_rename (callCode_to h0 rfl) (callCode_name h0 (show ¬ (3 : Int) = 6 by decide))
    have hnn : dAt (insAt (l.eraseIdx i) ⟨t, x.text⟩) n = none := by
      refine dAt_none' fun f hf e2 => ?_
      rcases List.mem_cons.1 ((insAt_perm _ _).mem_iff.1 hf) with rfl | hf
      · exact hnt e2.symm
      · obtain ⟨k, hk, ek⟩ := List.getElem_of_mem hf
        have h1 := (perm_cons_eraseIdx hx).map (·.name)
        have h2 := h1.nodup_iff.1 hl.srt.names
        rw [List.map_cons, List.nodup_cons] at h2
        exact h2.1 (List.mem_map.2 ⟨f, hf, by rw [e2, e']⟩)
    have hr := fdo_rename hc2 hj hjx hnn
    show (fdo (insAt (l.eraseIdx i) ⟨t, x.text⟩) (renameOf t n)).1.code = 0 ∧ (fdo (insAt (l.eraseIdx i) ⟨t, x.text⟩) (renameOf t n)).2 = l
    rw [hr]
    refine ⟨rfl, ?_⟩
    have hok2 := fdo_ok hok (renameOf t n)
    have hok2 : FOk (fdo (insAt (l.eraseIdx i) ⟨t, x.text⟩) (renameOf t n)).2 := hok2
    rw [hr] at hok2
    refine Sorted.eq hok2.srt hl.srt ?_
    refine (insAt_perm _ _).trans ?_
    have h3 : ((insAt (l.eraseIdx i) ⟨t, x.text⟩).eraseIdx j).Perm (l.eraseIdx i) :=
      List.Perm.cons_inv (a := (⟨t, x.text⟩ : FileD)) ((perm_cons_eraseIdx hjx).symm.trans (insAt_perm _ _))
    refine (h3.cons _).trans ?_
    have h4 : (⟨n, x.text⟩ : FileD) = x := by rw [← e']
    show ((⟨n, x.text⟩ : FileD) :: l.eraseIdx i).Perm l
    rw [h4]
    exact (perm_cons_eraseIdx hx).symm
  · exact absurd (show (3 : Int) = 2 from hk) (by decide)
/-- made, and removed: as it was -/
theorem fdo_made {l : List FileD} (hl : FOk l) {n : ByteArray} (h : (fdo l (makeOf n)).1.code = 0) : (fdo (fdo l (makeOf n)).2 (removeOf n)).1.code = 0 ∧ (fdo (fdo l (makeOf n)).2 (removeOf n)).2 = l := by
  have hw := fdo_way l (makeOf n)
  have hok := fdo_ok hl (makeOf n)
  generalize fdo l (makeOf n) = r at hw h hok
  rcases hw with ⟨k, hk, rfl⟩ | ⟨_, hk, rfl⟩ | ⟨h0, hk, hn, hlen, rfl⟩ | ⟨_, hk, i, x, hi, hx, e, rfl⟩ | ⟨h0, hk, i, x, hi, hx, e, hs, rfl⟩ | ⟨h0, hk, i, x, hi, hx, e, ht, rfl⟩ | ⟨h0, hk, i, x, hi, hx, e, rfl⟩
  · exact absurd h (show ¬ k = 0 by omega)
  · exact absurd (show (1 : Int) = 6 from hk) (by decide)
  · have hn' : dAt l n = none := hn
    obtain ⟨j, hj, hjx⟩ := insAt_at (x := (⟨n, noText⟩ : FileD)) hl.srt hn'
    have hc2 : callCode (removeOf n) = 0 := callCode_remove (callCode_name h0 (show ¬ (1 : Int) = 6 by decide))
    have hr := fdo_remove hc2 hj hjx
    show (fdo (insAt l ⟨n, noText⟩) (removeOf n)).1.code = 0 ∧ (fdo (insAt l ⟨n, noText⟩) (removeOf n)).2 = l
    rw [hr]
    refine ⟨rfl, ?_⟩
    refine Sorted.eq (hok.srt.erase j) hl.srt ?_
    exact List.Perm.cons_inv (a := (⟨n, noText⟩ : FileD)) ((perm_cons_eraseIdx hjx).symm.trans (insAt_perm _ _))
  · exact absurd (show (1 : Int) = 5 from hk) (by decide)
  · exact absurd (show (1 : Int) = 4 from hk) (by decide)
  · exact absurd (show (1 : Int) = 3 from hk) (by decide)
  · exact absurd (show (1 : Int) = 2 from hk) (by decide)
/-- what is put behind is read behind what was there -/
theorem fdo_behind {l : List FileD} (hl : FOk l) {n t : ByteArray} (h : (fdo l (appendOf n t)).1.code = 0) :
    (fdo l (readOf n)).1.code = 0 ∧ (fdo (fdo l (appendOf n t)).2 (readOf n)).1.code = 0 ∧ (fdo (fdo l (appendOf n t)).2 (readOf n)).1.text = (fdo l (readOf n)).1.text ++ t := by
  have hw := fdo_way l (appendOf n t)
  have hok := fdo_ok hl (appendOf n t)
  generalize fdo l (appendOf n t) = r at hw h hok
  rcases hw with ⟨k, hk, rfl⟩ | ⟨_, hk, rfl⟩ | ⟨h0, hk, hn, hlen, rfl⟩ | ⟨_, hk, i, x, hi, hx, e, rfl⟩ | ⟨h0, hk, i, x, hi, hx, e, hs, rfl⟩ | ⟨h0, hk, i, x, hi, hx, e, ht, rfl⟩ | ⟨h0, hk, i, x, hi, hx, e, rfl⟩
  · exact absurd h (show ¬ k = 0 by omega)
  · exact absurd (show (4 : Int) = 6 from hk) (by decide)
  · exact absurd (show (4 : Int) = 1 from hk) (by decide)
  · exact absurd (show (4 : Int) = 5 from hk) (by decide)
  · have e' : x.name = n := e
    subst e'
    have h1 := fdo_read hl hx
    have hlt := (List.getElem?_eq_some_iff.1 hx).1
    have h2 := fdo_read hok (k := i) (x := (⟨x.name, x.text ++ t⟩ : FileD)) (by
      show (l.set i (⟨x.name, x.text ++ t⟩ : FileD))[i]? = _
      simp [hlt])
    rw [h1]
    refine ⟨rfl, ?_⟩
    rw [show (ans 0, l.set i (⟨x.name, x.text ++ (appendOf x.name t).text⟩ : FileD)).2 = l.set i (⟨x.name, x.text ++ t⟩ : FileD) from rfl] at h2 ⊢
    rw [h2]
    exact ⟨rfl, rfl⟩
  · exact absurd (show (4 : Int) = 3 from hk) (by decide)
  · exact absurd (show (4 : Int) = 2 from hk) (by decide)
end Go.Proofs.Ytalfbhhldfffkab
