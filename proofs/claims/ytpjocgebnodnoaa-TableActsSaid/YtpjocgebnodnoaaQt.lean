/- Regions that draw their order, whose operations leave what lies below the heap's end alone: one walk in the text's order serves (by the kit's theorem on classes of worlds). -/
import Derived.Test.YtpjocgebnodnoaaAg
import Derived.Deep.QuietTactic
import Derived.BigQuiet
namespace Go.Proofs.Ytpjocgebnodnoaa
open Go.RowKit

/-- the worlds that grew out of w. -/
def Up (w : World) : Type := { v : World // Below w.heap.size w v }
def Up.top (w : World) : Up w := ⟨w, Below.refl _ _⟩
def Up.world {w : World} (n : Up w) : World := n.1
theorem Up.below {w : World} (n : Up w) : Below w.heap.size w n.world := n.2
instance (w : World) : Nonempty (Up w) := ⟨Up.top w⟩
theorem Up.next {w w' : World} (n : Up w) {B : Nat} (h : Below B n.world w') (hB : w.heap.size ≤ B) : ∃ m : Up w, w' = m.world := ⟨⟨w', n.below.trans (h.mono hB)⟩, rfl⟩
section
variable {P : Program} {ops : Array Oper} {w : World}
theorem up_region {id : Nat} {Q : Exit → Act → World → Prop} {a : Act} {l : List Oper} (hm : P.follows .mixedOrders = true) (hB : Region.lexB .any l.toArray = true)
    (h : wpQuiet P l.toArray (fun w' => ∃ n : Up w, w' = n.world) (fun a' => ∀ w', (∃ n : Up w, w' = n.world) → Q .normal a' w') l a) : (Code.region id l.toArray true).wp P Q a w :=
  wp_region_quiet (C := fun w' => ∃ n : Up w, w' = n.world) hm hB ⟨⟨w.drew, (Below.refl _ _).drew⟩, rfl⟩ (by simpa using h)
variable {C : World → Prop} {o : Oper} {a : Act} {K : Act → Prop} {t t' : TypeId} {n : Nat} {z : Array Value}
theorem q_load (T : AggT P t n z) (g off : Nat) (cs vs : Array Value) (hB : ∀ w', C w' → Blk w' g t' cs) (hle : off + n ≤ cs.size) (hv : cs.extract off (off + n) = vs)
    (x : Operand) (ho : o.op = .load t x) (hx : a.eval x = .pointer (some ⟨g, off, none⟩)) (hw : Region.wanted o (yielded ops a.tmps) = true)
    (hK : K (a.put o.dst (.agg vs))) : if Region.wanted o (yielded ops a.tmps) then o.quiet P a C K else K (a.put o.dst undef) := by
  rw [if_pos hw]
  refine ⟨.agg vs, fun w' hw' => ?_, hK⟩
  unfold Oper.quietAt execOp
  simp only [ho, hx, Instr.loadAt, Instr.sureAddr, Sem.run_bind, Sem.run_pure, Result.andThen_ok, run_ld T g off cs (hB w' hw') hle, hv, Oper.quietUpon, and_self]
end
end Go.Proofs.Ytpjocgebnodnoaa
