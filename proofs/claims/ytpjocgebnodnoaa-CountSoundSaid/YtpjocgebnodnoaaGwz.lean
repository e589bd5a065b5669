import Derived.Test.YtpjocgebnodnoaaArrz
import Derived.Deep.LoopGhost
import Derived.Deep.QuietTactic
import Derived.BigQuiet
import Derived.Test.YtpjocgebnodnoaaEqz
import Derived.Test.YtpjocgebnodnoaaQtz
import Derived.Test.YtpjocgebnodnoaaSlz
import Derived.Laws.StructEq
namespace Go.Proofs.Ytpjocgebnodnoaa
open Go.RowKit
set_option linter.unusedSimpArgs false
set_option linter.unusedVariables false
theorem sI {α : Type} (l : List α) (i : Nat) (a : α) : l.toArray.setIfInBounds i a = (l.set i a).toArray := List.setIfInBounds_toArray ..
theorem sZ {α : Type} (x y : α) (l : List α) : (x :: l).set 0 y = y :: l := List.set_cons_zero ..
theorem sS {α : Type} (x y : α) (l : List α) (n : Nat) : (x :: l).set (n + 1) y = x :: l.set n y := List.set_cons_succ ..
def av {α : Type} (f : α → Value) (l : List α) : Array Value := (l.map f).toArray
def nt {α : Type} (l : List α) (i : Nat) (d : α) : α := l.getD i d
def xv {α : Type} (f : α → Value) (l : List α) (cs : List Value) : Array Value := (l.map f ++ cs).toArray
section
variable {α : Type} {f : α → Value} {l l' : List α} {cs cs' : List Value} {n : Nat}
theorem av_size : (av f l).size = l.length := by unfold av; simp
theorem xv_size : (xv f l cs).size = l.length + cs.length := by unfold xv; simp
theorem av_get (d : α) {i : Nat} (h : i < l.length) : (av f l)[i]? = some (f (nt l i d)) := by
  unfold av nt; simp [List.getElem?_eq_getElem h]
theorem av_set (i : Nat) (x : α) : (av f l).setIfInBounds i (f x) = av f (l.set i x) := by
  unfold av; simp [List.map_set]
theorem av_one (h : ∀ x, (f x).oneCell' = true) : ∀ v ∈ (av f l).toList, v.oneCell' = true := by
  unfold av; intro v hv; simp at hv; obtain ⟨x, _, rfl⟩ := hv; exact h x
theorem av_le (hl : l.length = n) : 0 + n ≤ (av f l).size := by rw [av_size, hl]; omega
theorem av_ex (hl : l.length = n) : (av f l).extract 0 (0 + n) = av f l := by rw [show 0 + n = (av f l).size by rw [av_size, hl]; omega, Array.extract_size]
theorem av_put (hl : l.length = n) (hl' : l'.length = n) : putAt (av f l').toList 0 (av f l) = av f l' := by
  apply Array.ext'
  rw [putAt_list _ _ _ (by unfold av; simp; omega)]
  unfold av
  simp [hl, hl']
theorem xv_elem (d : α) {i : Nat} (h : i < l.length) : (xv f l cs)[i]? = some (f (nt l i d)) := by
  unfold xv nt; simp [List.getElem?_append, h]
theorem xv_cell (hl : l.length = n) (j m : Nat) (hm : m = n + j) : (xv f l cs)[m]? = cs[j]? := by
  subst hm; unfold xv; simp [List.getElem?_append, hl]
  intro h; omega
theorem xv_sete {i : Nat} (h : i < l.length) (x : α) : (xv f l cs).setIfInBounds i (f x) = xv f (l.set i x) cs := by
  unfold xv; simp [List.map_set, List.set_append, h]
theorem xv_setc (hl : l.length = n) (j m : Nat) (hm : m = n + j) (v : Value) : (xv f l cs).setIfInBounds m v = xv f l (cs.set j v) := by
  subst hm; unfold xv; simp [List.set_append, hl]
theorem xv_one (h : ∀ x, (f x).oneCell' = true) (h2 : ∀ v ∈ cs, v.oneCell' = true) : ∀ v ∈ (xv f l cs).toList, v.oneCell' = true := by
  unfold xv; intro v hv; simp at hv; rcases hv with ⟨x, _, rfl⟩ | hv
  · exact h x
  · exact h2 v hv
theorem xv_le (hl : l.length = n) (m : Nat) (hm : m = n + cs.length) : 0 + m ≤ (xv f l cs).size := by rw [xv_size, hl]; omega
theorem xv_ex (hl : l.length = n) (m : Nat) (hm : m = n + cs.length) : (xv f l cs).extract 0 (0 + m) = xv f l cs := by
  rw [show 0 + m = (xv f l cs).size by rw [xv_size, hl]; omega, Array.extract_size]
theorem xv_lea (hl : l.length = n) : 0 + n ≤ (xv f l cs).size := by rw [xv_size, hl]; omega
theorem xv_exa (hl : l.length = n) : (xv f l cs).extract 0 (0 + n) = av f l := by
  apply Array.ext'
  unfold xv av
  simp [hl]
theorem xv_put (hl : l.length = n) (hl' : l'.length = n) (hc : cs.length = cs'.length) : putAt (xv f l' cs').toList 0 (xv f l cs) = xv f l' cs' := by
  apply Array.ext'
  rw [putAt_list _ _ _ (by unfold xv; simp; omega)]
  unfold xv
  simp [hl, hl', hc]
theorem xv_puta (hl : l.length = n) (hl' : l'.length = n) : putAt (av f l').toList 0 (xv f l cs) = xv f l' cs := by
  apply Array.ext'
  rw [putAt_list _ _ _ (by unfold xv av; simp; omega)]
  unfold xv av
  simp [hl, hl']
end
theorem i64_w (n : Int) : IntKind.i64.wrap n = wrap64 n := by unfold wrap64; exact IntKind.wrap_i64 n
theorem i32_w (n : Int) : IntKind.i32.wrap n = wrap32 n := by unfold wrap32; exact IntKind.wrap_i32 n
section
variable {P : Program} {t t' : TypeId} {n : Nat} {z : Array Value} {w : World} {ops : Array Oper} {rest : List Oper} {o : Oper} {a : Act} {Q : Exit → Act → World → Prop}
theorem gate_d {N : Tmp} (_h : o.dst = some N) (h : wpList P ops Q (o :: rest) a w) : wpList P ops Q (o :: rest) a w := h
theorem gate_s {p : Tmp} {v : Operand} (_h : o.op = .store t (.tmp p) v) (h : wpList P ops Q (o :: rest) a w) : wpList P ops Q (o :: rest) a w := h
structure ScT (P : Program) (t : TypeId) : Prop where
  agg : ∀ w, (isAgg t).run P w = .ok false w
  size : ∀ w, (sizeOf t).run P w = .ok 1 w
theorem run_ld1 (hT : ScT P t) (g i : Nat) (v : Value) (cs : Array Value) (hB : Blk w g t' cs) (hv : cs[i]? = some v) : (loadVar t ⟨g, i, none⟩).run P w = .ok v w := by
  have hc : w.cell? ⟨g, i, none⟩ = some v := (hB.cell i).trans hv
  simp [loadVar, Sem.run_bind, hT.agg, run_load, hc]
theorem ag_set (hT : ScT P t) (g i : Nat) (v : Value) (cs cs' : Array Value) (hB : Blk w g t' cs) (hi : i < cs.size) (hc1 : v.cells = #[v]) (h1 : v.oneCell' = true) (hv : cs.setIfInBounds i v = cs') (hgd : Region.wanted o (yielded ops a.tmps) = true)
    (x y : Operand) (ho : o.op = .store t x y) (hx : a.eval x = .pointer (some ⟨g, i, none⟩)) (hy : a.eval y = v)
    (h : ∀ w1, Off g w w1 → Blk w1 g t' cs' → wpList P ops Q rest (a.put o.dst undef) w1) : wpList P ops Q (o :: rest) a w := by
  refine wpList_want hgd fun K hK => ?_
  have hst : (storeVar t ⟨g, i, none⟩ v).run P w = .ok () (w.setRow g cs') := by
    have h2 := run_st_cells (P := P) g i t' [v] 0 cs w hB (by simp; omega) (by intro u hu; simp at hu; subst hu; exact h1)
    simp only [putAt, Nat.add_zero, hv] at h2
    simp [storeVar, Sem.run_bind, hT.size, hc1, h2]
  have := h (w.setRow g cs') (off_setRow _ _ _) (setRow_heap w g cs cs' t' (0, 0) hB)
  unfold Oper.wp execOp
  simp only [ho, hx, hy, Instr.storeAt, Instr.sureAddr, Sem.run_bind, Sem.run_pure, Result.andThen_ok, hst]
  exact hK _ _ this
theorem res_c (T : AggT P t n z) {fn : Func} {p : Tmp} (hr : fn.results = #[.cell p t]) (tmps : Array Value) (g : Nat) (cs : Array Value) (hB : Blk w g t' cs) (hn : cs.size = n)
    (hp : tmps.getD p undef = .pointer (some ⟨g, 0, none⟩)) : (results fn tmps).run P w = .ok (.agg cs) w := ag_result T hr tmps g cs hB hn hp
end
section
variable {P : Program} {t t' : TypeId} {n : Nat} {z : Array Value} {w : World} {ops : Array Oper} {rest : List Oper} {o : Oper} {a : Act} {Q : Exit → Act → World → Prop} {C : World → Prop} {K : Act → Prop} {ev : Operand → Value}
theorem ag_fix (v : Value) (hr : (execOp a.eval o).run P w = .ok (.value v) w) (hgd : Region.wanted o (yielded ops a.tmps) = true) (h : wpList P ops Q rest (a.put o.dst v) w) : wpList P ops Q (o :: rest) a w := by
  refine wpList_want hgd fun K hK => ?_
  unfold Oper.wp
  rw [hr]
  exact hK _ _ h
theorem ex_get (hT : ScT P t) (g i : Nat) (v : Value) (cs : Array Value) (hB : Blk w g t' cs) (hv : cs[i]? = some v) (x : Operand) (ho : o.op = .load t x)
    (hx : ev x = .pointer (some ⟨g, i, none⟩)) : (execOp ev o).run P w = .ok (.value v) w := by
  unfold execOp
  simp only [ho, hx, Instr.loadAt, Instr.sureAddr, Sem.run_bind, Sem.run_pure, Result.andThen_ok, run_ld1 hT g i v cs hB hv]
theorem ex_load (T : AggT P t n z) (g off : Nat) (cs vs : Array Value) (hB : Blk w g t' cs) (hle : off + n ≤ cs.size) (hv : cs.extract off (off + n) = vs) (x : Operand) (ho : o.op = .load t x)
    (hx : ev x = .pointer (some ⟨g, off, none⟩)) : (execOp ev o).run P w = .ok (.value (.agg vs)) w := by
  unfold execOp
  simp only [ho, hx, Instr.loadAt, Instr.sureAddr, Sem.run_bind, Sem.run_pure, Result.andThen_ok, run_ld T g off cs hB hle, hv]
theorem ex_field (t : TypeId) (j : Nat) (p q : Value) (hf : ∀ w, (Instr.fieldAt t p j).run P w = .ok q w) (x : Operand) (ho : o.op = .fieldAddr t x j) (hx : ev x = p) : (execOp ev o).run P w = .ok (.value q) w := by
  unfold execOp
  simp only [ho, hx, Sem.run_bind, hf, Result.andThen_ok, Sem.run_pure]
theorem ex_fld (t : TypeId) (j : Nat) (p q : Value) (hf : ∀ w, (Instr.field t p j).run P w = .ok q w) (x : Operand) (ho : o.op = .field t x j) (hx : ev x = p) : (execOp ev o).run P w = .ok (.value q) w := by
  unfold execOp
  simp only [ho, hx, Sem.run_bind, hf, Result.andThen_ok, Sem.run_pure]
theorem ex_at (t : TypeId) (p i q : Value) (hf : ∀ w, (Instr.indexAt t p i).run P w = .ok q w) (x y : Operand) (ho : o.op = .indexAddr t x y) (hx : ev x = p) (hy : ev y = i) : (execOp ev o).run P w = .ok (.value q) w := by
  unfold execOp
  simp only [ho, hx, hy, Sem.run_bind, hf, Result.andThen_ok, Sem.run_pure]
theorem ex_ix (t : TypeId) (p i q : Value) (hf : ∀ w, (Instr.index t p i).run P w = .ok q w) (x y : Operand) (ho : o.op = .index t x y) (hx : ev x = p) (hy : ev y = i) : (execOp ev o).run P w = .ok (.value q) w := by
  unfold execOp
  simp only [ho, hx, hy, Sem.run_bind, hf, Result.andThen_ok, Sem.run_pure]
theorem ex_eq (b : BinOp) (t : TypeId) (p q r : Value) (hg : ∀ x y w, (eqGuard b t x y p q).run P w = .ok () w) (hf : ∀ w, (binOp b t p q).run P w = .ok r w) (x y : Operand) (ty : TypeId) (ho : o.op = .binOp b t x y ty) (hx : ev x = p) (hy : ev y = q) :
    (execOp ev o).run P w = .ok (.value r) w := by
  unfold execOp
  simp only [ho, hx, hy, Sem.run_bind, hg, hf, Result.andThen_ok, Sem.run_pure]
theorem run_ixv {α : Type} {f : α → Value} (e : TypeId) (hu : P.underlying t = some (.array n e)) (hs : ScT P e) (l : List α) (hl : l.length = n) (d : α) (k : Int) (h0 : 0 ≤ k) (h1 : k < n) (w : World) :
    (Instr.index t (.agg (av f l)) (.int .i64 k)).run P w = .ok (f (nt l k.toNat d)) w := by
  have hb := av_get (f := f) (l := l) d (i := k.toNat) (by omega)
  simp [Instr.index, asIntOf, run_underlying hu, h0, h1, part, hb, hs.agg, hs.size]
theorem run_atv (e : TypeId) (hu : P.underlying t = some (.array n e)) (hz : ∀ w, (sizeOf e).run P w = .ok 1 w) (g off : Nat) (k : Int) (h0 : 0 ≤ k) (h1 : k < n) (w : World) :
    (Instr.indexAt t (.pointer (some ⟨g, off, none⟩)) (.int .i64 k)).run P w = .ok (.pointer (some ⟨g, off + k.toNat, none⟩)) w := by
  simp [Instr.indexAt, asIntOf, run_underlying hu, h0, h1, Instr.sureAddr, add_off, hz]
end
def Sl (w : World) (v : Value) (xs : List Value) : Prop :=
  (v = .slice none 0 0 ∧ xs = []) ∨ ∃ a cap, v = .slice (some a) xs.length cap ∧ xs.length ≤ cap ∧ cap ≤ maxLen ∧ ∀ i, i < xs.length → w.cell? (a.add i) = xs[i]?
section
variable {w w' : World} {B g g' : Nat} {e t : TypeId} {v : Value} {xs : List Value} {cs : Array Value}
theorem Sl.nil (w : World) : Sl w (.slice none 0 0) [] := .inl ⟨rfl, rfl⟩
theorem Sl.below (h : Sl w v xs) (hb : Below w.heap.size w w') : Sl w' v xs := by
  rcases h with h | ⟨a, cap, rfl, h1, h2, h4⟩
  · exact .inl h
  · refine .inr ⟨a, cap, rfl, h1, h2, fun i hi => ?_⟩
    have h5 := h4 i hi
    rw [List.getElem?_eq_getElem hi] at h5 ⊢
    exact (hb.cell (World.block_lt_of_cell? _ _ h5)).trans h5
theorem Own.sl (h : Own w B e v xs) : Sl w v xs := by
  rcases h.form with ⟨rfl, rfl⟩ | ⟨g, cap, cur, rfl, hb, hh, hn, hm, hs, ht⟩
  · exact Sl.nil w
  · refine .inr ⟨⟨g, 0, none⟩, cap, rfl, hn, hm, fun i hi => ?_⟩
    rw [add_off, hh.cell, Nat.zero_add]
    have : (cur.toList.take xs.length)[i]? = xs[i]? := by rw [ht]
    rw [List.getElem?_take, if_pos hi, Array.getElem?_toList] at this
    exact this
theorem Sl.shape (h : Sl w v xs) : ∃ A cap, v = .slice A xs.length cap := by
  rcases h with ⟨rfl, rfl⟩ | ⟨a, cap, rfl, _⟩
  · exact ⟨_, _, rfl⟩
  · exact ⟨_, _, rfl⟩
theorem Own.one (h : Own w B e v xs) : v.oneCell' = true := by
  obtain ⟨A, c, hv⟩ := h.sl.shape
  rw [hv]; rfl
theorem Sl.get {α : Type} {f : α → Value} {l : List α} (h : Sl w v (l.map f)) (d : α) {i : Int} (h0 : 0 ≤ i) (h1 : i < (l.length : Int)) : ∃ a cap, v = .slice (some a) l.length cap ∧ w.cell? (a.add i.toNat) = some (f (nt l i.toNat d)) := by
  have hi : i.toNat < l.length := by omega
  rcases h with ⟨rfl, h⟩ | ⟨a, cap, rfl, h1, h2, h4⟩
  · simp at h; subst h; simp at hi
  · refine ⟨a, cap, by rw [List.length_map], ?_⟩
    rw [h4 i.toNat (by simpa using hi)]
    unfold nt
    simp [List.getElem?_eq_getElem hi]
end
section
variable {P : Program} {t e : TypeId} {w : World} {ops : Array Oper} {rest : List Oper} {o : Oper} {a : Act} {Q : Exit → Act → World → Prop} {ev : Operand → Value}
theorem ex_len (hu : P.underlying t = some (.slice e)) (A : Option Addr) (n c : Nat) (v : Value) (hv : v = .slice A n c) (x : Operand) (ho : o.op = .call { callee := .builtin .len, args := #[x], argTypes := #[t] }) (hx : ev x = v) : (execOp ev o).run P w = .ok (.value (.int .i64 n)) w := by
  subst hv
  have h : ∀ ty, (Builtin.len_ #[t] ty #[.slice A n c]).run P w = .ok (goInt n) w := fun ty => by simp [Builtin.len_, run_underlying hu]
  unfold execOp
  simp [ho, hx, go_sem, h, goInt]
theorem ex_sat (n c : Nat) (i : Int) (b : Addr) (v : Value) (hv : v = .slice (some b) n c) (h0 : 0 ≤ i) (h1 : i < (n : Int)) (hu : P.underlying t = some (.slice e)) (hz : ScT P e) (x y : Operand) (ho : o.op = .indexAddr t x y) (hx : ev x = v) (hy : ev y = .int .i64 i) :
    (execOp ev o).run P w = .ok (.value (.pointer (some (b.add i.toNat)))) w := by
  subst hv
  unfold execOp
  simp [ho, hx, hy, Instr.indexAt, asIntOf, run_underlying hu, h0, h1, hz.size]
theorem ex_scell (hT : ScT P t) (b : Addr) (v : Value) (hc : w.cell? b = some v) (x : Operand) (ho : o.op = .load t x) (hx : ev x = .pointer (some b)) : (execOp ev o).run P w = .ok (.value v) w := by
  unfold execOp
  have hl : (loadVar t b).run P w = .ok v w := by simp [loadVar, Sem.run_bind, hT.agg, run_load, hc]
  simp only [ho, hx, Instr.loadAt, Instr.sureAddr, Sem.run_bind, Sem.run_pure, Result.andThen_ok, hl]
theorem ag_lit (T : ScT P e) (u : Value) (g : Nat) (hg : w.heap.size = g) (hgd : Region.wanted o (yielded ops a.tmps) = true) (x : Operand) (ho : o.op = .buildSlice t 1 #[(0, x)]) (hx : a.eval x = u)
    (hr : ∀ w, (Instr.buildSlice t 1 #[(0, u)]).run P w = .ok (.slice (some ⟨w.heap.size, 0, none⟩) 1 1) (w.alloc (.cells #[u] e)))
    (h : ∀ w1, Below g w w1 → Blk w1 g e #[u] → w1.heap.size = g + 1 → wpList P ops Q rest (a.put o.dst (.slice (some ⟨g, 0, none⟩) 1 1)) w1) : wpList P ops Q (o :: rest) a w := by
  subst hg
  refine wpList_want hgd fun K hK => ?_
  have := h (w.alloc (.cells #[u] e)) ((Below.refl _ _).alloc (Nat.le_refl _) _) (Blk.new _ _ _) (by simp)
  unfold Oper.wp execOp
  simp only [ho, Sem.run_bind, List.map_toArray, List.map_cons, List.map_nil, hx, hr, Result.andThen_ok, Sem.run_pure]
  exact hK _ _ this
end
theorem Own.lit {w : World} {B g : Nat} {e : TypeId} {vs : List Value} {n : Nat} (hB : B ≤ g) (hh : Blk w g e vs.toArray) (hn : vs.length = n) (hm : n ≤ maxLen) : Own w B e (.slice (some ⟨g, 0, none⟩) n n) vs := by
  subst hn
  have := Own.of_blk (xs := vs) hB hh (by simp) (by simpa using hm) (by simp)
  simpa using this
section
variable {P : Program} {t e : TypeId} {w : World} {ops : Array Oper} {rest : List Oper} {o : Oper} {a : Act} {Q : Exit → Act → World → Prop}
theorem ag_litn (n : Nat) (us : Array Value) (g : Nat) (hg : w.heap.size = g) (hgd : Region.wanted o (yielded ops a.tmps) = true) (parts : Array (Nat × Operand)) (ho : o.op = .buildSlice t n parts)
    (hr : ∀ w, (Instr.buildSlice t n (parts.map fun (i, x) => (i, a.eval x))).run P w = .ok (.slice (some ⟨w.heap.size, 0, none⟩) n n) (w.alloc (.cells us e)))
    (h : ∀ w1, Below g w w1 → Blk w1 g e us → w1.heap.size = g + 1 → wpList P ops Q rest (a.put o.dst (.slice (some ⟨g, 0, none⟩) n n)) w1) : wpList P ops Q (o :: rest) a w := by
  subst hg
  refine wpList_want hgd fun K hK => ?_
  have := h (w.alloc (.cells us e)) ((Below.refl _ _).alloc (Nat.le_refl _) _) (Blk.new _ _ _) (by simp)
  unfold Oper.wp execOp
  simp only [ho, Sem.run_bind, hr, Result.andThen_ok, Sem.run_pure]
  exact hK _ _ this
end
section
variable {P : Program} {ops : Array Oper} {o : Oper} {rest : List Oper} {Q : Act → Prop} {C : World → Prop} {ts : Array Value} {df : List Deferred} {d : Tmp}
structure Wq (P : Program) (ops : Array Oper) (C : World → Prop) (Q : Act → Prop) (l : List Oper) (a : Act) : Prop where
  out : wpQuiet P ops C Q l a
theorem up_regionW {w : World} {id : Nat} {Q : Exit → Act → World → Prop} {a : Act} {l : List Oper} (hm : P.follows .mixedOrders = true) (hB : Region.lexB .any l.toArray = true)
    (h : Wq P l.toArray (fun w' => ∃ n : Up w, w' = n.world) (fun a' => ∀ w', (∃ n : Up w, w' = n.world) → Q .normal a' w') l a) : (Code.region id l.toArray true).wp P Q a w := up_region hm hB h.out
theorem q_end {a : Act} (h : Q a) : Wq P ops C Q [] a := ⟨h⟩
theorem q_do (v : Value) (hr : ∀ w', C w' → (execOp (Act.eval ⟨ts, df⟩) o).run P w' = .ok (.value v) w') (hw : Region.wanted o (yielded ops ts) = true) (hd : o.dst = some d) (h : ∀ ts', ts.setIfInBounds d v = ts' → Wq P ops C Q rest ⟨ts', df⟩) :
    Wq P ops C Q (o :: rest) ⟨ts, df⟩ := by
  refine ⟨?_⟩
  unfold wpQuiet
  rw [if_pos hw]
  refine ⟨v, fun w' hw' => ?_, ?_⟩
  · unfold Oper.quietAt
    rw [hr w' hw']
    exact ⟨rfl, rfl⟩
  · rw [hd]; exact (h _ rfl).out
theorem q_no {o : Oper} (hw : Region.wanted o (yielded ops ts) = false) (hd : o.dst = some d) (h : ∀ ts', ts.setIfInBounds d undef = ts' → Wq P ops C Q rest ⟨ts', df⟩) : Wq P ops C Q (o :: rest) ⟨ts, df⟩ := by
  refine ⟨?_⟩
  unfold wpQuiet
  rw [if_neg (by rw [hw]; decide)]
  rw [hd]; exact (h _ rfl).out
theorem q_not (j : Nat) (b : Bool) (hg : o.guard = some (j, !b)) (hy : yielded ops ts j = some b) (hd : o.dst = some d) (h : ∀ ts', ts.setIfInBounds d undef = ts' → Wq P ops C Q rest ⟨ts', df⟩) : Wq P ops C Q (o :: rest) ⟨ts, df⟩ :=
  q_no (by unfold Region.wanted; rw [hg]; simp [hy]) hd h
theorem q_call (v : Value) (f : FuncId) (args : Array Value) (he : ∀ w', (execOp (Act.eval ⟨ts, df⟩) o).run P w' = .ok (.enter f args) w') (hc : ∀ w', C w' → Calls P f args w' fun e w'' => e = .returned v ∧ C w'')
    (hw : Region.wanted o (yielded ops ts) = true) (hd : o.dst = some d) (h : ∀ ts', ts.setIfInBounds d v = ts' → Wq P ops C Q rest ⟨ts', df⟩) : Wq P ops C Q (o :: rest) ⟨ts, df⟩ := by
  refine ⟨?_⟩
  unfold wpQuiet
  rw [if_pos hw]
  refine ⟨v, fun w' hw' => ?_, ?_⟩
  · unfold Oper.quietAt
    rw [he w']
    exact ⟨rfl, hc w' hw'⟩
  · rw [hd]; exact (h _ rfl).out
theorem up_same {w w' w'' : World} (hc : ∃ n : Up w, w' = n.world) (h : w' = w'') : ∃ n : Up w, w'' = n.world := h ▸ hc
theorem up_below {w w' w'' : World} (hc : ∃ n : Up w, w' = n.world) (h : Below w'.heap.size w' w'') : ∃ n : Up w, w'' = n.world := by
  obtain ⟨n, rfl⟩ := hc
  exact Up.next n h n.below.size
theorem ex_mv {ev : Operand → Value} {w : World} (x : Operand) (ho : o.op = .move x ∨ o.op = .assign x) (v : Value) (hx : ev x = v) : (execOp ev o).run P w = .ok (.value v) w := by
  unfold execOp
  rcases ho with ho | ho <;> simp only [ho, hx, Sem.run_pure]
end
end Go.Proofs.Ytpjocgebnodnoaa
