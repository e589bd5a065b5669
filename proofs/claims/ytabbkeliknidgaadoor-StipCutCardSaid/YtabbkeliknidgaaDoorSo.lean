/- An argument that is a stipulation, opened. -/
import Derived.Test.YtabbkeliknidgaaDoorProg
import Derived.ProofKit
import Derived.OpenShut
import Derived.Lib.SmallJoins
namespace Go.Proofs.YtabbkeliknidgaaDoor
open Go.ChangeShapes Go.WideShapes Go.ChangeAt Go.RowKit Go.Joins Go.Deep
section
variable {H : Type} {enc : TypeId × Value → H} {W : World} {b : Nat} {sp : Nat → Bool} {hd : Bool}
theorem so_wf {n : Int} (h : (Lit.int .i64 n).wf = true) : -9223372036854775808 ≤ n ∧ n ≤ 9223372036854775807 := by simpa [Lit.wf, IntKind.min, IntKind.max, IntKind.signed, IntKind.bits] using h
theorem so_int : Tryd.prog.underlying 3 = some (.int .i64) := by kernel_rfl
theorem so_bool : Tryd.prog.underlying 4 = some .bool := by kernel_rfl
theorem so_stip : ∃ f0 f1 f2 f3 : Field, Tryd.prog.underlying 23 = some (.struct #[f0, f1, f2, f3]) ∧ f0.type = 3 ∧ f1.type = 3 ∧ f2.type = 3 ∧ f3.type = 4 ∧ oneCellFields Tryd.prog #[f0, f1, f2, f3] = true :=
  ⟨_, _, _, _, Tryd.underlying23, rfl, rfl, rfl, rfl, by kernel_rfl⟩
set_option maxRecDepth 10000 in
theorem open_stip {base : Nat} {v : Value} {d : DataW H} {ps : List MemPlace} (hv : Value.okWide Tryd.prog W .any base 23 v) (h : DataW.Trod enc Tryd.prog W b sp hd 23 v d ps) :
    ∃ (k g n : Int) (h : Bool), v = .agg #[.int .i64 k, .int .i64 g, .int .i64 n, .bool h] := by
  obtain ⟨f0, f1, f2, f3, hu, t0, t1, t2, t3, hone⟩ := so_stip
  obtain ⟨v0, v1, v2, v3, y0, y1, y2, y3, n, rfl, _, _, h0, h1, h2, h3⟩ := open_agg4 hu hone (by kernel_rfl) hv h
  rw [t0] at h0; rw [t1] at h1; rw [t2] at h2; rw [t3] at h3
  obtain ⟨a, ha, _, _⟩ := DataW.trod_int so_int h0
  obtain ⟨g, hg, _, _⟩ := DataW.trod_int so_int h1
  obtain ⟨m, hm, _, _⟩ := DataW.trod_int so_int h2
  obtain ⟨e, he, _⟩ := DataW.trod_bool so_bool h3
  simp only [List.cons.injEq, and_true] at ha hg hm he
  subst ha hg hm he
  exact ⟨a, g, m, e, rfl⟩
end
end Go.Proofs.YtabbkeliknidgaaDoor
