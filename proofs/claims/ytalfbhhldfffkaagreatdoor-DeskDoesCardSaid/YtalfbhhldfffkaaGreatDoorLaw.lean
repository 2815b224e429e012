/- Law: what the closing texts share. -/
import Derived.Test.YtalfbhhldfffkaaGreatDoorRead
set_option maxHeartbeats 8000000
set_option maxRecDepth 100000
namespace Go.Proofs.YtalfbhhldfffkaaGreatDoor
open Go.RowKit
end Go.Proofs.YtalfbhhldfffkaaGreatDoor
namespace Go.Proofs.YtalfbhhldfffkaaGreatDoor
open Go.ChangeShapes Go.WideShapes Go.ChangeAt Go.RowKit
theorem own_knob : ownKnob Tryz.prog.godebug = none := by kernel_rfl
theorem laid_out : laidOutB Tryz.prog = true := by kernel_rfl
theorem weights_arg {H : Type} {P : Program} {ts us : List TypeId} {ds gs : List (DataW H)} (hsz : (DataW.weightsEach P (ts ++ us) (ds ++ gs)).all (· <= reachBytes) = true) {j : Nat} {t : TypeId} {d : DataW H}
 (ht : ts[j]? = some t) (hd : ds[j]? = some d) : ∀ k ∈ d.weights P t, k <= reachBytes := fun k hk => by
 have h1 : (ts ++ us)[j]? = some t := by rw [List.getElem?_append_left (lG ht).1]; exact ht
 have h2 : (ds ++ gs)[j]? = some d := by rw [List.getElem?_append_left (lG hd).1]; exact hd
 exact of_decide_eq_true (List.all_eq_true.1 hsz k (DataW.weights_mem_each h1 h2 k hk))
theorem reads_all {P : Program} {ts : List TypeId} (h : (ts.all fun t => P.readableRec t && decide (t < P.types.size)) = true) : ∀ t ∈ ts, P.readableRec t = true /\ t < P.types.size := fun t ht => by
 have := List.all_eq_true.1 h t ht;simpa using this
theorem len_le {P : Program} {e : TypeId} {n : Nat} (h : n * P.bytesOf e <= reachBytes) (hb : 0 < P.bytesOf e) : n <= 140737488351232 := by
 have := Nat.le_mul_of_pos_right n hb;unfold reachBytes at h;omega
end Go.Proofs.YtalfbhhldfffkaaGreatDoor
namespace Go.Proofs.YtalfbhhldfffkaaGreatDoor
open Go.RowKit
end Go.Proofs.YtalfbhhldfffkaaGreatDoor
