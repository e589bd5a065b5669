import Derived.Test.YtaipghemddjecaaMemz
import Derived.WalkKit
import Derived.Laws.Rows
import Derived.Laws.Tables
import Derived.OwnWalk
namespace Go.Proofs.Ytaipghemddjecaa
open Go.RowKit
structure Off (g : Nat) (w w' : World) : Prop where
  os : w'.os = w.os
  tape : w'.tape = w.tape
  output : w'.output = w.output
  size : w'.heap.size = w.heap.size
  block : ∀ k, k ≠ g → w'.heap[k]? = w.heap[k]?
section
variable {w w' : World} {g g' B pos : Nat} {t t' : TypeId} {cs cs' : Array Value} {s : ByteArray}
theorem Off.below {a : World} (h : Off g w w') (hb : Below B a w) (hg : B ≤ g) : Below B a w' :=
  hb.trans ⟨h.os, h.tape, h.output, Nat.le_of_eq h.size.symm, fun k hk => h.block k (by omega)⟩
theorem Blk.off (h : Blk w g t cs) (ho : Off g' w w') (hne : g ≠ g') : Blk w' g t cs := (ho.block g hne).trans h
theorem Itr.off (h : Itr w g s pos) (ho : Off g' w w') (hne : g ≠ g') : Itr w' g s pos := (ho.block g hne).trans h
theorem off_setRow (w : World) (g : Nat) (cs : Array Value) : Off g w (w.setRow g cs) := ⟨rfl, rfl, rfl, setRow_size w g cs, fun k hk => setRow_other w g k cs hk⟩
theorem Off.trans {w'' : World} (h : Off g w w') (h' : Off g w' w'') : Off g w w'' :=
  ⟨h'.os.trans h.os, h'.tape.trans h.tape, h'.output.trans h.output, h'.size.trans h.size, fun k hk => (h'.block k hk).trans (h.block k hk)⟩
def putAt : List Value → Nat → Array Value → Array Value
  | [], _, cur => cur
  | v :: r, i, cur => putAt r (i + 1) (cur.setIfInBounds i v)
theorem putAt_list : ∀ (vs : List Value) (i : Nat) (cur : Array Value), i + vs.length ≤ cur.size → (putAt vs i cur).toList = cur.toList.take i ++ vs ++ cur.toList.drop (i + vs.length)
  | [], i, cur, _ => by simp [putAt]
  | v :: r, i, cur, h => by
    simp only [List.length_cons] at h
    rw [putAt, putAt_list r (i + 1) _ (by simp; omega)]
    apply List.ext_getElem?
    intro k
    simp only [Array.toList_setIfInBounds, List.getElem?_append, List.length_take, List.length_set, Array.length_toList, List.length_append, List.length_cons, List.getElem?_drop, List.getElem?_take, List.getElem?_set]
    by_cases hk : k < i
    · simp [show k < i + 1 by omega, show min (i + 1) cur.size = i + 1 by omega, show min i cur.size = i by omega, hk, show k < i + 1 + r.length by omega, show k < i + (r.length + 1) by omega, show i ≠ k by omega]
    · by_cases hk2 : k = i
      · subst hk2
        simp [show min (k + 1) cur.size = k + 1 by omega, show min k cur.size = k by omega, show k < cur.size by omega, show k < k + 1 + r.length by omega]
      · by_cases hk3 : k < i + 1 + r.length
        · simp [show min (i + 1) cur.size = i + 1 by omega, show min i cur.size = i by omega, show ¬ k < i + 1 by omega, hk, hk3, show k < i + (r.length + 1) by omega, show k - i = (k - (i + 1)) + 1 by omega]
        · simp [show min (i + 1) cur.size = i + 1 by omega, show min i cur.size = i by omega, hk3, show ¬ k < i + (r.length + 1) by omega, show i + 1 + r.length + (k - (i + 1 + r.length)) = i + (r.length + 1) + (k - (i + (r.length + 1))) by omega, show i ≠ i + (r.length + 1) + (k - (i + (r.length + 1))) by omega]
end
section
variable {P : Program}
theorem add_off (g off i : Nat) : (⟨g, off, none⟩ : Addr).add i = ⟨g, off + i, none⟩ := by unfold Addr.add; split <;> simp_all
theorem run_st_cells (g off : Nat) (t : TypeId) : ∀ (vs : List Value) (i : Nat) (cur : Array Value) (w : World), Blk w g t cur → off + i + vs.length ≤ cur.size → (∀ v ∈ vs, v.oneCell' = true) →
    (storeCells ⟨g, off, none⟩ vs i).run P w = .ok () (w.setRow g (putAt vs (off + i) cur))
  | [], i, cur, w, hg, _, _ => by
    have e : w.setRow g cur = w := by
      have hlt := hg.lt
      have hv : w.heap[g] = .cells cur t (0, 0) := (Array.getElem?_eq_some_iff.1 hg).2
      unfold World.setRow
      cases w with
      | mk heap tape drawn os output =>
        congr 1
        apply Array.ext
        · simp
        · intro k h1 h2
          simp only [Array.getElem_modify]
          split
          · rename_i hk; subst hk; simp at hv; simp [hv]
          · rfl
    simp only [storeCells, putAt, e]
    rfl
  | v :: rest, i, cur, w, hg, hl, h1 => by
    simp only [List.length_cons] at hl
    have hi : off + i < cur.size := by omega
    have hcell : w.cell? ⟨g, off + i, none⟩ = some cur[off + i] := by rw [hg.cell]; simp [hi]
    have hst : (store ((⟨g, off, none⟩ : Addr).add i) v).run P w = .ok () (w.setRow g (cur.setIfInBounds (off + i) v)) := by
      rw [add_off, run_store P w _ v _ (h1 v (by simp)), hcell]
      simp [hg.free, setCell_eq_setRow w g (off + i) cur t (0, 0) v hg]
    have ih := run_st_cells g off t rest (i + 1) (cur.setIfInBounds (off + i) v) (w.setRow g (cur.setIfInBounds (off + i) v)) (setRow_heap w g cur _ t _ hg) (by simp; omega) (fun x hx => h1 x (by simp [hx]))
    simp only [storeCells, Sem.run_bind, hst, Result.andThen_ok, ih, setRow_setRow]
    rfl
structure AggT (P : Program) (t : TypeId) (n : Nat) (z : Array Value) : Prop where
  agg : ∀ w, (isAgg t).run P w = .ok true w
  size : ∀ w, (sizeOf t).run P w = .ok n w
  zero : ∀ w, (zeroValue t).run P w = .ok (.agg z) w
  zsize : z.size = n
variable {t t' : TypeId} {n : Nat} {z : Array Value} {w : World}
theorem run_ld (T : AggT P t n z) (g off : Nat) (cs : Array Value) (hB : Blk w g t' cs) (hle : off + n ≤ cs.size) :
    (loadVar t ⟨g, off, none⟩).run P w = .ok (.agg (cs.extract off (off + n))) w := by
  have hl : (loadCells ⟨g, off, none⟩ (cs.extract off (off + n)).toList.length).run P w = .ok (cs.extract off (off + n)).toList.toArray w :=
    run_loadCells_list (P := P) w ⟨g, off, none⟩ (cs.extract off (off + n)).toList (fun j v hv => by
      rw [add_off, hB.cell, ← hv, Array.getElem?_toList, Array.getElem?_extract]
      have hj : j < (cs.extract off (off + n)).size := by
        rcases Nat.lt_or_ge j (cs.extract off (off + n)).size with h | h
        · exact h
        · rw [Array.getElem?_toList, Array.getElem?_eq_none h] at hv; cases hv
      rw [if_pos (by simpa using hj)])
  have e : (cs.extract off (off + n)).size = n := by simp; omega
  rw [Array.length_toList, e, Array.toArray_toList] at hl
  simp [loadVar, Sem.run_bind, T.agg, T.size, hl]
theorem run_st (T : AggT P t n z) (g off : Nat) (cs vs : Array Value) (hB : Blk w g t' cs) (hn : vs.size = n) (hle : off + n ≤ cs.size) (h1 : ∀ v ∈ vs.toList, v.oneCell' = true) :
    (storeVar t ⟨g, off, none⟩ (.agg vs)).run P w = .ok () (w.setRow g (putAt vs.toList off cs)) := by
  have h := run_st_cells (P := P) g off t' vs.toList 0 cs w hB (by simp; omega) h1
  simp [storeVar, Sem.run_bind, T.size, Value.cells, hn]
  simpa using h
variable {ops : Array Oper} {rest : List Oper} {o : Oper} {a : Act} {Q : Exit → Act → World → Prop}
theorem wpList_want (hw : Region.wanted o (yielded ops a.tmps) = true) (h : ∀ K : Act → World → Prop, (∀ a w, wpList P ops Q rest a w → K a w) → o.wp P a w K Q) : wpList P ops Q (o :: rest) a w :=
  wpList_step fun K hK => by simp only [hw, if_true]; exact h K hK
theorem ag_alloc (T : AggT P t n z) (g : Nat) (hg : w.heap.size = g) (hgd : Region.wanted o (yielded ops a.tmps) = true) (ho : o.op = .alloc t)
    (h : ∀ w1, Below g w w1 → Blk w1 g t z → w1.heap.size = g + 1 → wpList P ops Q rest (a.put o.dst (.pointer (some ⟨g, 0, none⟩))) w1) :
    wpList P ops Q (o :: rest) a w := by
  subst hg
  refine wpList_want hgd fun K hK => ?_
  have := h (w.alloc (.cells z t)) ((Below.refl _ _).alloc (Nat.le_refl _) _) (Blk.new _ _ _) (by simp)
  unfold Oper.wp execOp
  simp only [ho, Instr.alloc, Sem.run_bind, T.zero, Result.andThen_ok, newVar, newRow, run_newObj_alloc, Sem.run_pure, Value.cells]
  exact hK _ _ this
theorem ag_box (cs : Array Value) (g : Nat) (hg : w.heap.size = g) (hgd : Region.wanted o (yielded ops a.tmps) = true) (x : Operand) (ho : o.op = .box t x) (hx : a.eval x = .agg cs)
    (h : ∀ w1, Below g w w1 → Blk w1 g t cs → w1.heap.size = g + 1 → wpList P ops Q rest (a.put o.dst (.pointer (some ⟨g, 0, none⟩))) w1) :
    wpList P ops Q (o :: rest) a w := by
  subst hg
  refine wpList_want hgd fun K hK => ?_
  have := h (w.alloc (.cells cs t)) ((Below.refl _ _).alloc (Nat.le_refl _) _) (Blk.new _ _ _) (by simp)
  unfold Oper.wp execOp
  simp only [ho, hx, Instr.box, Sem.run_bind, Result.andThen_ok, newVar, newRow, run_newObj_alloc, Sem.run_pure, Value.cells]
  exact hK _ _ this
theorem ag_store (T : AggT P t n z) (g off : Nat) (cs vs cs' : Array Value) (hB : Blk w g t' cs) (hn : vs.size = n) (hle : off + n ≤ cs.size) (h1 : ∀ v ∈ vs.toList, v.oneCell' = true)
    (hv : putAt vs.toList off cs = cs') (hgd : Region.wanted o (yielded ops a.tmps) = true) (x y : Operand) (ho : o.op = .store t x y)
    (hx : a.eval x = .pointer (some ⟨g, off, none⟩)) (hy : a.eval y = .agg vs)
    (h : ∀ w1, Off g w w1 → Blk w1 g t' cs' → wpList P ops Q rest (a.put o.dst undef) w1) : wpList P ops Q (o :: rest) a w := by
  refine wpList_want hgd fun K hK => ?_
  have := h (w.setRow g cs') (off_setRow _ _ _) (setRow_heap w g cs cs' t' (0, 0) hB)
  unfold Oper.wp execOp
  simp only [ho, hx, hy, Instr.storeAt, Instr.sureAddr, Sem.run_bind, Sem.run_pure, Result.andThen_ok, run_st T g off cs vs hB hn hle h1, hv]
  exact hK _ _ this
theorem ag_build (v : Value) (parts : Array (Nat × Operand)) (hgd : Region.wanted o (yielded ops a.tmps) = true) (ho : o.op = .build t parts) (hr : ∀ w, (Instr.build t (parts.map fun (i, x) => (i, a.eval x))).run P w = .ok v w)
    (h : wpList P ops Q rest (a.put o.dst v) w) : wpList P ops Q (o :: rest) a w := by
  refine wpList_want hgd fun K hK => ?_
  unfold Oper.wp execOp
  simp only [ho, Sem.run_bind, hr, Result.andThen_ok, Sem.run_pure]
  exact hK _ _ h
theorem ag_result (T : AggT P t n z) {fn : Func} {p : Tmp} (hr : fn.results = #[.cell p t]) (tmps : Array Value) (g : Nat) (cs : Array Value) (hB : Blk w g t' cs) (hn : cs.size = n)
    (hp : tmps.getD p undef = .pointer (some ⟨g, 0, none⟩)) : (results fn tmps).run P w = .ok (.agg cs) w := by
  have hp' : tmps[p]?.getD undef = .pointer (some ⟨g, 0, none⟩) := by simpa using hp
  have hl := run_ld (P := P) T g 0 cs hB (by omega)
  rw [Nat.zero_add, ← hn, Array.extract_size] at hl
  simp [results, hr, hp', asAddr, hl]
end
end Go.Proofs.Ytaipghemddjecaa
