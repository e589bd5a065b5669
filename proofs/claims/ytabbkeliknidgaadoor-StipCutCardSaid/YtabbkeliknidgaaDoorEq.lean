/- '==' and '!=' on boards and positions. -/
import Derived.Test.YtabbkeliknidgaaDoorArr
import Derived.Test.YtabbkeliknidgaaDoorQt
namespace Go.Proofs.YtabbkeliknidgaaDoor
open Go.RowKit
theorem forIn_same {P : Program} {w : World} (f : Nat → Option Bool × Unit → Sem (ForInStep (Option Bool × Unit))) (g : Nat → Bool) :
    ∀ (L : List Nat), (∀ i ∈ L, (f i (none, ())).run P w = .ok (if g i then .yield (none, ()) else .done (some false, ())) w) →
      (forIn L (none, ()) f).run P w = .ok (if L.all g then (none, ()) else (some false, ())) w
  | [], _ => by simp
  | i :: L, h => by
    have h1 := h i (by simp)
    have ih := forIn_same f g L (fun j hj => h j (by simp [hj]))
    rw [List.forIn_cons, Sem.run_bind, h1]
    cases hg : g i with
    | true => simpa [hg] using ih
    | false => simp [hg]
theorem list64_eq {l l' : List Int} (hl : l.length = 64) (hl' : l'.length = 64) : (List.range' 0 64 1).all (fun i => l.getD i 0 == l'.getD i 0) = decide (l = l') := by
  by_cases h : l = l'
  · subst h; simp
  · rw [decide_eq_false h]
    rw [Bool.eq_false_iff]
    intro ha
    apply h
    rw [List.all_eq_true] at ha
    apply List.ext_getElem (by omega)
    intro i h1 h2
    have := ha i (by simp [List.mem_range']; omega)
    simpa [List.getElem?_eq_getElem h1, List.getElem?_eq_getElem h2] using this
section
variable {ops : Array Oper} {rest : List Oper} {o : Oper} {a : Act} {w : World} {Q : Exit → Act → World → Prop} {C : World → Prop} {K : Act → Prop}
end
end Go.Proofs.YtabbkeliknidgaaDoor
