/- RecRead: records that are read, in whatever later world. No program is walked here. -/
import Derived.Test.YtalfbhhldfffkaaGreatDoorTypes
import Derived.Test.YtalfbhhldfffkaaGreatDoorGBasis
set_option maxHeartbeats 8000000
set_option maxRecDepth 100000
namespace Go.Proofs.YtalfbhhldfffkaaGreatDoor
open Go.RowKit
structure RecSeen (w : World) (a : Addr) (r : Record) : Prop where
 whole : LV Tryz.prog 112 a w = .ok (.agg r.cells) w
 client : w.cell? a = some (.int .i64 r.client)
 no : w.cell? ⟨a.block, a.off + 1, none⟩ = some (.int .i64 r.no)
 kind : w.cell? ⟨a.block, a.off + 2, none⟩ = some (.int .i64 r.call.kind)
 call : objPart (a.off + 2) 4 (w.heap[a.block]?) = some r.call.cells
 answer : objPart (a.off + 6) 2 (w.heap[a.block]?) = some r.answer.cells
theorem rec_reads {w : World} {A : Option Addr} {L : List Record} (h : Reads w w.heap.size A L) {k : Nat} {r : Record} (hr : L[k]? = some r) :
 ∃ ad, A = some ad /\ ∀ w', Ext w w' -> RecSeen w' (ad.add (k * 8)) r := by
 obtain ⟨ad, e, hb, hat⟩ := h k r hr;refine ⟨ad, e, fun w' hx => ?_⟩;have hk : (ad.add (k * Lies.size Record)).block = ad.block := by unfold Addr.add; split <;> rfl
 have h1 : At w' (ad.add (k * 8)) r := hat.of_same (w' := w') (by rw [hk]; exact hx.block _ hb id);exact ⟨LV_Record h1, h1 0 _ rfl, h1 1 _ rfl, h1 2 _ rfl, objPart_at h1 r.call 2 r.part_call, objPart_at h1 r.answer 6 r.part_answer⟩
end Go.Proofs.YtalfbhhldfffkaaGreatDoor
