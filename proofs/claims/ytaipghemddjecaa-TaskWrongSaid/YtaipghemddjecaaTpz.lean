import Derived.Test.YtaipghemddjecaaToz
namespace Go.Proofs.Ytaipghemddjecaa
open Go.RowKit
open Go.Maps (Keyed)
set_option linter.unusedVariables false
set_option linter.unusedSimpArgs false
set_option maxRecDepth 100000
section
variable {H : Type} {P : Program} {w : World} {ops : Array Oper} {rest : List Oper} {o : Oper} {a : Act} {Q : Exit → Act → World → Prop}
theorem in_make (hg : o.guard = none) (t : TypeId) (hop : o.op = Op.makeMap t none) (b : Nat) (hb : w.heap.size = b) (k : TypeId) (R : Value → Option (DataW H × List MemPlace))
    (h : ∀ w1, w1.ownsMap P k R b 0 (.map []) → Below b w w1 → wpList P ops Q rest (a.put o.dst (.map (some b))) w1) : wpList P ops Q (o :: rest) a w := by
  subst hb
  refine wpList_plain hg fun K' hK' => ?_
  have := h (w.alloc (.map #[] 0)) (World.ownsMap_made w P k R) ((Below.refl _ _).alloc (Nat.le_refl _) _)
  unfold Oper.wp
  simp [execOp, hop, run_makeMap, Result.andThen]
  exact hK' _ _ this
theorem in_insert (hg : o.guard = none) (m x v : Operand) (t : TypeId) (hop : o.op = Op.insert t m x v)
    (k e : TypeId) (K : Keyed P k) (ht : P.underlying t = some (.map k e)) (R : Value → Option (DataW H × List MemPlace)) (b n : Nat) (D : DataW H)
    (hm : a.eval m = .map (some b)) (hown : w.ownsMap P k R b n D) (hn : n < maxLen) (key val : Value) (kl : Lit) (hx : a.eval x = key) (hv : a.eval v = val) (hkey : keyOf P k key = some kl)
    (d : DataW H) (ps : List MemPlace) (hval : R val = some (d, ps))
    (hK : ∀ w', w'.ownsMap P k R b (n + 1) (D.put kl d) → w.grownBy w' (some b) → wpList P ops Q rest (a.put o.dst undef) w') :
    wpList P ops Q (o :: rest) a w := by
  refine wpList_plain hg fun K' hK' => ?_
  obtain ⟨w', hrun, r1, r2⟩ := hown.update K ht hn hkey hval
  unfold Oper.wp
  simp [execOp, hop, hm, hx, hv, hrun, Result.andThen]
  exact hK' _ _ (hK w' r1 r2)
end
theorem grown_below {w0 w w' : World} {B b : Nat} (h : Below B w0 w) (hg : w.grownBy w' (some b)) (hb : B ≤ b) (hB : B ≤ w.heap.size) : Below B w0 w' :=
  h.trans ⟨hg.os, hg.tape, hg.output, hg.size, fun k hk => hg.block k (by omega) (fun e => by injection e with e; omega)⟩
theorem omap_all {w : World} {b n : Nat} {D : DataW Unit} (h : w.ownsMap Try.prog 9 fnElem b n D) (hn : n = 7) (hD : D = mapD allO) : OMap w b allO := by subst hn hD; exact h
set_option maxHeartbeats 40000000 in
theorem options_calls (w : World) : Calls Try.prog 6 #[] w fun e w' => ∃ b, e = .returned (.map (some b)) ∧ w.heap.size ≤ b ∧ OMap w' b allO ∧ Below w.heap.size w w' := by
 have HL := hid (Below.refl w.heap.size w)
 go_enter Try.func6, Try.ntmps6
 have k1 := True.intro
 go_wp2_with (first
  | (refine in_make (H := Unit) rfl 37 rfl w.heap.size rfl 9 fnElem ?_; clear k1; intro w1 ho_ hb_; have OM := hid ho_; have HL1 := hid (HL.out.trans hb_); have LT := hid (Nat.le_refl w.heap.size); clear ho_ hb_)
  | (refine in_insert rfl _ _ _ _ rfl 9 42 (Maps.string_keyed tk9) tm37 fnElem w.heap.size _ _ rfl OM.out (by unfold maxLen; omega) _ _ _ rfl rfl (WideMaps.keyOf_string_mk (P := Try.prog) tk9 (by unfold maxLen; decide)) _ [] rfl ?_; intro w2 ho_ hg_; replace HL1 := hid (grown_below HL1.out hg_ (Nat.le_refl _) (HL1.out.size)); replace OM := hid ho_; clear ho_ hg_))
 go_ret
 exact ⟨w.heap.size, rfl, Nat.le_refl _, omap_all OM.out rfl (by kernel_rfl), HL1.out⟩
end Go.Proofs.Ytaipghemddjecaa
