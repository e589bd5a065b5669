import Derived.Test.YtpjocgebnodnoaaArrz
import Derived.Test.YtpjocgebnodnoaaQtz
namespace Go.Proofs.Ytpjocgebnodnoaa
open Go.RowKit
theorem forIn_same {P : Program} {w : World} (f : Nat → Option Bool × Unit → Sem (ForInStep (Option Bool × Unit))) (g : Nat → Bool) :
    ∀ (L : List Nat), (∀ i ∈ L, (f i (none, ())).run P w = .ok (if g i then .yield (none, ()) else .done (some false, ())) w) →
      (forIn L (none, ()) f).run P w = .ok (if L.all g then (none, ()) else (some false, ())) w
  | [], _ => by simp
  | i :: L, h => by
    have h1 := h i (by simp)
    have ih := forIn_same f g L (fun j hj => h j (by simp [hj]))
    rw [List.forIn_cons, Sem.run_bind, h1]
    cases hg : g i with
    | true => simpa [hg] using ih
    | false => simp [hg]
theorem list64_eq {l l' : List Int} (hl : l.length = 64) (hl' : l'.length = 64) : (List.range' 0 64 1).all (fun i => l.getD i 0 == l'.getD i 0) = decide (l = l') := by
  by_cases h : l = l'
  · subst h; simp
  · rw [decide_eq_false h]
    rw [Bool.eq_false_iff]
    intro ha
    apply h
    rw [List.all_eq_true] at ha
    apply List.ext_getElem (by omega)
    intro i h1 h2
    have := ha i (by simp [List.mem_range']; omega)
    simpa [List.getElem?_eq_getElem h1, List.getElem?_eq_getElem h2] using this
theorem run_part_board (l : List Int) (i : Nat) (hi : i < l.length) (w : World) : (part 42 (bv l) (i * 1)).run Try.prog w = .ok (.int .i8 (l.getD i 0)) w := by
  have hb := bv_get l i hi
  unfold part
  simp only [Sem.run_bind, i8_agg, Result.andThen_ok, Nat.mul_one, hb]
  rfl
theorem und_i8' : Try.prog.underlying 42 = some (.int .i8) := by kernel_rfl
theorem run_eq_board (d : Nat) (l l' : List Int) (hl : l.length = 64) (hl' : l'.length = 64) (w : World) : (Op.equalIn (d + 2) 44 (.agg (bv l)) (.agg (bv l'))).run Try.prog w = .ok (decide (l = l')) w := by
  unfold Op.equalIn
  simp only [Sem.run_bind, run_underlying und_board, Result.andThen_ok, i8_size]
  rw [Std.Legacy.Range.forIn_eq_forIn_range', forIn_same _ (fun i => l.getD i 0 == l'.getD i 0)]
  · rw [show List.range' [:64].start [:64].size [:64].step = List.range' 0 64 1 from rfl, list64_eq hl hl']
    by_cases h : l = l'
    · rw [decide_eq_true h]; simp
    · rw [decide_eq_false h]; simp
  · intro i hi
    have hi' : i < 64 := by simp [List.mem_range', Std.Legacy.Range.size] at hi; omega
    have he : (Op.equalIn (d + 1) 42 (.int .i8 (l.getD i 0)) (.int .i8 (l'.getD i 0))).run Try.prog w = .ok (l.getD i 0 == l'.getD i 0) w := by
      unfold Op.equalIn
      simp only [Sem.run_bind, run_underlying und_i8', Result.andThen_ok, if_true]
      rfl
    simp only [Sem.run_bind, run_part_board l i (by omega), run_part_board l' i (by omega), he, Result.andThen_ok]
    cases (l.getD i 0 == l'.getD i 0) <;> rfl
theorem eql_board (l l' : List Int) (hl : l.length = 64) (hl' : l'.length = 64) (w : World) : (binOp .eql 44 (.agg (bv l)) (.agg (bv l'))).run Try.prog w = .ok (.bool (decide (l = l'))) w := by
  have h := run_eq_board 9998 l l' hl hl' w
  simp [binOp, Op.equal, Op.maxDepth, h]
theorem guard_board : Try.prog.eqGuardType Try.prog.depth 44 = false := by kernel_rfl
theorem run_guard (op : BinOp) (x y : Operand) (a b : Array Value) (w : World) : (eqGuard op 44 x y (.agg a) (.agg b)).run Try.prog w = .ok () w := by
  have hp : ∀ w, (program : Sem Program).run Try.prog w = .ok Try.prog w := fun _ => rfl
  unfold eqGuard
  cases hop : (!(op matches .eql | .neq)) with
  | true => simp only [if_true, Sem.run_pure]
  | false => simp only [Bool.false_eq_true, if_false, Sem.run_bind, hp, Result.andThen_ok, guard_board, Bool.not_false, if_true, Sem.run_pure]
end Go.Proofs.Ytpjocgebnodnoaa
