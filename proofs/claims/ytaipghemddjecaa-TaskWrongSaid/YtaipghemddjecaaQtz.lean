import Derived.Test.YtaipghemddjecaaAgz
import Derived.Deep.QuietTactic
import Derived.BigQuiet
namespace Go.Proofs.Ytaipghemddjecaa
open Go.RowKit
def Up (w : World) : Type := { v : World // Below w.heap.size w v }
def Up.top (w : World) : Up w := ⟨w, Below.refl _ _⟩
def Up.world {w : World} (n : Up w) : World := n.1
theorem Up.below {w : World} (n : Up w) : Below w.heap.size w n.world := n.2
instance (w : World) : Nonempty (Up w) := ⟨Up.top w⟩
theorem Up.next {w w' : World} (n : Up w) {B : Nat} (h : Below B n.world w') (hB : w.heap.size ≤ B) : ∃ m : Up w, w' = m.world := ⟨⟨w', n.below.trans (h.mono hB)⟩, rfl⟩
section
variable {P : Program} {ops : Array Oper} {w : World}
theorem up_region {id : Nat} {Q : Exit → Act → World → Prop} {a : Act} {l : List Oper} (hm : P.follows .mixedOrders = true) (hB : Region.lexB .any l.toArray = true)
    (h : wpQuiet P l.toArray (fun w' => ∃ n : Up w, w' = n.world) (fun a' => ∀ w', (∃ n : Up w, w' = n.world) → Q .normal a' w') l a) : (Code.region id l.toArray true).wp P Q a w :=
  wp_region_quiet (C := fun w' => ∃ n : Up w, w' = n.world) hm hB ⟨⟨w.drew, (Below.refl _ _).drew⟩, rfl⟩ (by simpa using h)
variable {C : World → Prop} {o : Oper} {a : Act} {K : Act → Prop} {t t' : TypeId} {n : Nat} {z : Array Value}
end
end Go.Proofs.Ytaipghemddjecaa
