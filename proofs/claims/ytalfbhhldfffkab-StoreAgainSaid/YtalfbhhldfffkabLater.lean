/- Later: a region that draws its order, whose operations read, and whose callees make memory at most: walked once, in the order of the text, in whatever later world. No program is walked here. -/
import Derived.Test.YtalfbhhldfffkabBase
import Derived.BigQuiet
import Derived.Deep.RegionWith
namespace Go.Proofs.Ytalfbhhldfffkab
open Go.RowKit

/-- A world that is w but for draws and new blocks. -/
structure Later (w : World) where
  to_ : World
  ext : Ext w to_
instance (w : World) : Nonempty (Later w) := ⟨⟨w, Touch.refl _ w⟩⟩
def Later.then {w : World} (t : Later w) {w' : World} (h : Ext t.to_ w') : Later w := ⟨w', Touch.then t.ext h fun _ h => h.elim⟩

theorem wp_region_later {P : Program} {id : Nat} {Q : Exit → Act → World → Prop} {a : Act} {w : World} {l : List Oper} (hm : P.follows .mixedOrders = true) (hB : Region.lexB .any l.toArray = true)
    (h : wpQuiet P l.toArray (fun w' => ∃ t : Later w, w' = t.to_) (fun a' => ∀ w', (∃ t : Later w, w' = t.to_) → Q .normal a' w') l a) : (Code.region id l.toArray true).wp P Q a w :=
  wp_region_quiet (C := fun w' => ∃ t : Later w, w' = t.to_) hm hB ⟨⟨w.drew, (Touch.refl _ w).drew⟩, rfl⟩ (by simpa using h)
theorem Calls.later {P : Program} {f : FuncId} {args : Array Value} {w : World} {t : Later w} {v : Value} (h : Calls P f args t.to_ fun e w' => e = .returned v ∧ Ext t.to_ w') :
    Calls P f args t.to_ fun e w'' => e = .returned v ∧ ∃ t' : Later w, w'' = t'.to_ := h.mono fun _ w' ⟨he, hx⟩ => ⟨he, ⟨t.then hx, rfl⟩⟩
end Go.Proofs.Ytalfbhhldfffkab
