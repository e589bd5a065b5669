/- Rows of acts among the arguments, opened; two tables side by side. -/
import Derived.Test.YtpjocgebnodnoaaUg
import Derived.ProofKit
import Derived.OpenShut
import Derived.Deep.Slices
namespace Go.Proofs.Ytpjocgebnodnoaa
open Go.ChangeShapes Go.WideShapes Go.ChangeAt Go.RowKit
set_option linter.unusedVariables false
set_option linter.unusedSimpArgs false
set_option maxRecDepth 100000
/-- an act: its kind, a position's number, a depth, a value. -/
abbrev ActT := Int × Int × Int × Int
def en40 (x : ActT) : List Value := [.int .i64 x.1, .int .i64 x.2.1, .int .i64 x.2.2.1, .int .i64 x.2.2.2]
theorem en40_len (x : ActT) : (en40 x).length = 4 := rfl
def z40 : ActT := (0, 0, 0, 0)
theorem t_aT40 : AggT Try.prog 40 4 #[.int .i64 0, .int .i64 0, .int .i64 0, .int .i64 0] := ⟨fun w => by kernel_rfl, fun w => by kernel_rfl, fun w => by kernel_rfl, rfl⟩
theorem t_us36 : Try.prog.underlying 36 = some (.slice 40) := by kernel_rfl
theorem t_fa40_0 (g : Nat) (w : World) : (Instr.fieldAt 40 (.pointer (some ⟨g, 0, none⟩)) 0).run Try.prog w = .ok (.pointer (some ⟨g, 0, none⟩)) w := by kernel_rfl
theorem t_fa40_1 (g : Nat) (w : World) : (Instr.fieldAt 40 (.pointer (some ⟨g, 0, none⟩)) 1).run Try.prog w = .ok (.pointer (some ⟨g, 1, none⟩)) w := by kernel_rfl
theorem t_fa40_2 (g : Nat) (w : World) : (Instr.fieldAt 40 (.pointer (some ⟨g, 0, none⟩)) 2).run Try.prog w = .ok (.pointer (some ⟨g, 2, none⟩)) w := by kernel_rfl
theorem t_fa40_3 (g : Nat) (w : World) : (Instr.fieldAt 40 (.pointer (some ⟨g, 0, none⟩)) 3).run Try.prog w = .ok (.pointer (some ⟨g, 3, none⟩)) w := by kernel_rfl
theorem u40 : ∃ f0 f1 f2 f3 : Field, Try.prog.underlying 40 = some (.struct #[f0, f1, f2, f3]) ∧ (f0.type = 3 ∧ f0.offset = 0) ∧ (f1.type = 3 ∧ f1.offset = 1) ∧ (f2.type = 3 ∧ f2.offset = 2) ∧ f3.type = 3 ∧ f3.offset = 3 :=
  ⟨_, _, _, _, Try.underlying40, ⟨rfl, rfl⟩, ⟨rfl, rfl⟩, ⟨rfl, rfl⟩, rfl, rfl⟩
theorem c40 : Try.prog.cellsOf 40 = 4 := by kernel_rfl
theorem c3 : Try.prog.cellsOf 3 = 1 := by kernel_rfl
theorem u3 : Try.prog.underlying 3 = some (.int .i64) := by kernel_rfl
def cellI (W : World) (x : Addr) : Int := match W.cell? x with | some (.int .i64 n) => n | _ => 0
theorem cellI_is {W : World} {x : Addr} {n : Int} (h : W.cell? x = some (.int .i64 n)) : W.cell? x = some (.int .i64 (cellI W x)) := by unfold cellI; rw [h]
section
variable {H : Type} {enc : TypeId × Value → H} {W : World} {b base : Nat} {sp : Nat → Bool} {hd : Bool} {v : Value} {d : DataW H} {ps : List MemPlace}
theorem open_acts (hv : Value.okWide Try.prog W .any base 36 v) (h : DataW.Trod enc Try.prog W b sp hd 36 v d ps) : ∃ l : List ActT, SlN W 4 v l.length (l.flatMap en40) := by
  obtain ⟨a0, len, cap, rfl⟩ := okWide_slice t_us36 hv
  obtain ⟨fuel, hf⟩ := h
  rcases Go.Deep.open_slice t_us36 hf with ⟨hcs, _⟩ | ⟨a, len', cap', m, n, D, Pl, hcs, _, hl, hm, hmm, _, hx⟩
  · simp only [Value.cells, List.cons.injEq, Value.slice.injEq, and_true] at hcs
    obtain ⟨rfl, rfl, rfl⟩ := hcs
    exact ⟨[], .inl ⟨rfl, rfl⟩⟩
  · simp only [Value.cells, List.cons.injEq, Value.slice.injEq, and_true] at hcs
    obtain ⟨rfl, rfl, rfl⟩ := hcs
    have hle : len ≤ m := by rw [hmm]; split <;> omega
    obtain ⟨f0, f1, f2, f3, hu, ⟨t0, o0⟩, ⟨t1, o1⟩, ⟨t2, o2⟩, t3, o3⟩ := u40
    have each : ∀ i, i < len → ∀ j, j < 4 → ∃ k, W.cell? (a.add (i * 4 + j)) = some (.int .i64 k) := by
      intro i hi j hj
      obtain ⟨cs', h1, h2⟩ := hx i (by omega)
      rw [c40] at h1
      obtain ⟨_, hlen, hcell⟩ := World.cells?_some h1
      obtain ⟨xs, k, _, _, _, hxl, hff⟩ := DataW.trod_struct hu h2
      have key : ∀ (f : Field) (r : Nat), (#[f0, f1, f2, f3] : Array Field)[r]? = some f → f.type = 3 → f.offset = r → r < 4 → ∃ k, W.cell? (a.add (i * 4 + r)) = some (.int .i64 k) := fun f r hr ht ho hr4 => by
        have hg := hff r f (by first | exact hr | simpa using hr)
        rw [ht, ho, c3, List.getElem?_eq_getElem (by rw [hxl]; simpa using hr4)] at hg
        obtain ⟨q, hq, _, _⟩ := DataW.trod_int u3 hg
        rw [List.drop_eq_getElem_cons (by omega)] at hq
        simp only [List.take_succ_cons, List.take_zero, List.cons.injEq, and_true] at hq
        have hc := hcell r (by omega)
        rw [add_add, List.getElem?_eq_getElem (by omega), hq] at hc
        exact ⟨q, hc⟩
      match j, hj with
      | 0, _ => exact key f0 0 rfl t0 o0 (by omega)
      | 1, _ => exact key f1 1 rfl t1 o1 (by omega)
      | 2, _ => exact key f2 2 rfl t2 o2 (by omega)
      | 3, _ => exact key f3 3 rfl t3 o3 (by omega)
    refine ⟨(List.range len).map fun i => (cellI W (a.add (i * 4 + 0)), cellI W (a.add (i * 4 + 1)), cellI W (a.add (i * 4 + 2)), cellI W (a.add (i * 4 + 3))), ?_⟩
    have ll : ((List.range len).map fun i => ((cellI W (a.add (i * 4 + 0)), cellI W (a.add (i * 4 + 1)), cellI W (a.add (i * 4 + 2)), cellI W (a.add (i * 4 + 3))) : ActT)).length = len := by simp
    rw [ll]
    refine .inr ⟨a, cap, rfl, hl, hm, fun i hi => ?_⟩
    rw [flat_len en40_len, ll] at hi
    have hq : i / 4 < len := by omega
    have F := flat_at en40_len z40 ((List.range len).map fun i => ((cellI W (a.add (i * 4 + 0)), cellI W (a.add (i * 4 + 1)), cellI W (a.add (i * 4 + 2)), cellI W (a.add (i * 4 + 3))) : ActT)) (i / 4) (by rw [ll]; exact hq)
    have e1 : (((List.range len).map fun i => ((cellI W (a.add (i * 4 + 0)), cellI W (a.add (i * 4 + 1)), cellI W (a.add (i * 4 + 2)), cellI W (a.add (i * 4 + 3))) : ActT)).flatMap en40)[i]? = (en40 (cellI W (a.add (i / 4 * 4 + 0)), cellI W (a.add (i / 4 * 4 + 1)), cellI W (a.add (i / 4 * 4 + 2)), cellI W (a.add (i / 4 * 4 + 3))))[i % 4]? := by
      have e2 : nt ((List.range len).map fun i => ((cellI W (a.add (i * 4 + 0)), cellI W (a.add (i * 4 + 1)), cellI W (a.add (i * 4 + 2)), cellI W (a.add (i * 4 + 3))) : ActT)) (i / 4) z40 = (cellI W (a.add (i / 4 * 4 + 0)), cellI W (a.add (i / 4 * 4 + 1)), cellI W (a.add (i / 4 * 4 + 2)), cellI W (a.add (i / 4 * 4 + 3))) := by
        unfold nt; simp [List.getD, hq]
      rw [e2] at F
      rw [← F, List.getElem?_take, if_pos (by omega), List.getElem?_drop, show i / 4 * 4 + i % 4 = i by omega]
    rw [e1]
    have hcases : i % 4 = 0 ∨ i % 4 = 1 ∨ i % 4 = 2 ∨ i % 4 = 3 := by omega
    have him : i = i / 4 * 4 + i % 4 := by omega
    rcases hcases with h4 | h4 | h4 | h4
    · rw [h4] at him ⊢; conv => lhs; rw [him]
      obtain ⟨k, hk⟩ := each (i / 4) hq 0 (by omega); exact cellI_is hk
    · rw [h4] at him ⊢; conv => lhs; rw [him]
      obtain ⟨k, hk⟩ := each (i / 4) hq 1 (by omega); exact cellI_is hk
    · rw [h4] at him ⊢; conv => lhs; rw [him]
      obtain ⟨k, hk⟩ := each (i / 4) hq 2 (by omega); exact cellI_is hk
    · rw [h4] at him ⊢; conv => lhs; rw [him]
      obtain ⟨k, hk⟩ := each (i / 4) hq 3 (by omega); exact cellI_is hk
end
end Go.Proofs.Ytpjocgebnodnoaa
