/- Tables: the reference's table in memory: a row of entries, all in one block. -/
import Derived.Test.YtpjocgebnodnoaaVk
namespace Go.Proofs.Ytpjocgebnodnoaa
open Go.RowKit
set_option linter.unusedVariables false
set_option linter.unusedSimpArgs false
set_option maxRecDepth 100000
/-- a board of sixty-four. -/
def padB (l : List Int) : List Int := (l ++ zL).take 64
theorem padB_len (l : List Int) : (padB l).length = 64 := by unfold padB; rw [List.length_take, List.length_append, show zL.length = 64 from rfl]; omega
theorem padB_is {l : List Int} (h : l.length = 64) : padB l = l := by unfold padB; rw [List.take_append_of_le_length (by omega), List.take_of_length_le (by omega)]
def rentC (q : Key) (x : Int) (b : Bool) : Array Value := xv (Value.int .i8) (padB q.1) [.int .i64 q.2.1, .int .i64 q.2.2.1, .int .i64 q.2.2.2.1, .int .i64 q.2.2.2.2, .int .i64 x, .bool b]
def zK : Key := (zL, 0, 0, 0, 0)
def rent (o : Option (Key × Int)) : List Value := (match o with | some z => rentC z.1 z.2 true | none => rentC zK 0 false).toList
theorem rentC_size (q : Key) (x : Int) (b : Bool) : (rentC q x b).size = 70 := by unfold rentC; rw [xv_size, padB_len]; rfl
theorem rent_len (o : Option (Key × Int)) : (rent o).length = 70 := by cases o <;> (unfold rent; simp only [Array.length_toList]; exact rentC_size _ _ _)
theorem rentC_one (q : Key) (x : Int) (b : Bool) : ∀ v ∈ (rentC q x b).toList, v.oneCell' = true := xv_one (fun _ => rfl) (by intro v hv; simp at hv; rcases hv with rfl | rfl | rfl | rfl | rfl | rfl <;> rfl)
def rcells (L : Slots) : Array Value := (L.flatMap rent).toArray
theorem rcells_size (L : Slots) : (rcells L).size = L.length * 70 := by unfold rcells; rw [List.size_toArray]; exact flat_len rent_len L
theorem rc_le {L : Slots} {i : Nat} (h : i < L.length) : i * 70 + 70 ≤ (rcells L).size := by rw [rcells_size, ← Nat.succ_mul]; exact Nat.mul_le_mul_right 70 h
theorem rc_ext {L : Slots} {i : Nat} (h : i < L.length) : (rcells L).extract (i * 70) (i * 70 + 70) = (rent (nt L i none)).toArray := by
  apply Array.toList_inj.mp
  rw [Array.toList_extract, List.extract_eq_take_drop, Nat.add_sub_cancel_left]
  exact flat_at rent_len none L i h
theorem rc_cell {L : Slots} {i : Nat} (h : i < L.length) {k : Nat} (hk : k < 70) : (rcells L)[i * 70 + k]? = (rent (nt L i none))[k]? := by
  rw [← flat_at rent_len none L i h, List.getElem?_take, if_pos hk, List.getElem?_drop]
  unfold rcells; simp
def depV (L : Slots) (i : Nat) : Int := depZ L i
def valZ (L : Slots) (i : Nat) : Int := match nt L i none with | some z => z.2 | none => 0
theorem rentC_cell (q : Key) (x : Int) (b : Bool) (j m : Nat) (hm : m = 64 + j) : (rentC q x b)[m]? = ([.int .i64 q.2.1, .int .i64 q.2.2.1, .int .i64 q.2.2.2.1, .int .i64 q.2.2.2.2, .int .i64 x, .bool b] : List Value)[j]? := xv_cell (padB_len _) j m hm
theorem rc_dep {L : Slots} {i : Nat} (h : i < L.length) : (rcells L)[i * 70 + 67]? = some (.int .i64 (depZ L i)) := by
  rw [rc_cell h (by omega)]; unfold depZ rent
  cases nt L i none with
  | none => simp only [Array.getElem?_toList]; exact rentC_cell _ _ _ 3 67 rfl
  | some z => simp only [Array.getElem?_toList]; exact rentC_cell _ _ _ 3 67 rfl
theorem rc_val {L : Slots} {i : Nat} (h : i < L.length) : (rcells L)[i * 70 + 68]? = some (.int .i64 (valZ L i)) := by
  rw [rc_cell h (by omega)]; unfold valZ rent
  cases nt L i none with
  | none => simp only [Array.getElem?_toList]; exact rentC_cell _ _ _ 4 68 rfl
  | some z => simp only [Array.getElem?_toList]; exact rentC_cell _ _ _ 4 68 rfl
theorem rc_is {L : Slots} {i : Nat} (h : i < L.length) : (rcells L)[i * 70 + 69]? = some (.bool (nt L i none).isSome) := by
  rw [rc_cell h (by omega)]; unfold rent
  cases nt L i none with
  | none => simp only [Array.getElem?_toList]; exact rentC_cell _ _ _ 5 69 rfl
  | some z => simp only [Array.getElem?_toList]; exact rentC_cell _ _ _ 5 69 rfl
theorem flat_set {α : Type} {n : Nat} {f : α → List Value} (hf : ∀ x, (f x).length = n) (y : α) : ∀ (l : List α) (i : Nat), i < l.length → (l.set i y).flatMap f = (l.flatMap f).take (i * n) ++ f y ++ (l.flatMap f).drop (i * n + n)
  | [], i, h => by simp at h
  | x :: l, 0, h => by
    have := hf x
    simp only [List.set_cons_zero, List.flatMap_cons, Nat.zero_mul, List.take_zero, List.nil_append, Nat.zero_add]
    rw [List.drop_append, List.drop_of_length_le (by omega), List.nil_append, show n - (f x).length = 0 by omega, List.drop_zero]
  | x :: l, i + 1, h => by
    have := hf x
    simp only [List.set_cons_succ, List.flatMap_cons]
    rw [flat_set hf y l i (by simpa using h), Nat.succ_mul]
    generalize i * n = m
    rw [List.take_append, List.drop_append, List.take_of_length_le (l := f x) (by omega), List.drop_of_length_le (l := f x) (by omega), show m + n - (f x).length = m by omega, show m + n + n - (f x).length = m + n by omega]
    simp
theorem rc_put {L : Slots} {i : Nat} (h : i < L.length) (o : Option (Key × Int)) : putAt (rent o) (i * 70) (rcells L) = rcells (L.set i o) := by
  apply Array.toList_inj.mp
  rw [putAt_list _ _ _ (by rw [rent_len]; exact rc_le h), rent_len]
  unfold rcells
  exact (flat_set rent_len o L i h).symm
theorem rc_new (n : Nat) : madeCells (rentC zK 0 false) (n * 70) = rcells (emptyZ n) := by
  apply Array.ext_getElem?
  intro m
  have hs : (madeCells (rentC zK 0 false) (n * 70)).size = n * 70 := size_madeCells _ _
  by_cases hm : m < n * 70
  · have hi : m / 70 < n := (Nat.div_lt_iff_lt_mul (by omega)).2 hm
    have e : m = m / 70 * 70 + m % 70 := by omega
    have h1 : (rcells (emptyZ n))[m]? = (rent none)[m % 70]? := by
      conv => lhs; rw [e]
      rw [rc_cell (by unfold emptyZ; simpa using hi) (Nat.mod_lt _ (by omega))]
      unfold emptyZ; rw [nt_rep]
    rw [h1]
    have hz : m % 70 < (rentC zK 0 false).size := by rw [rentC_size]; exact Nat.mod_lt _ (by omega)
    have h2 : (rent none)[m % 70]? = some ((rentC zK 0 false)[m % 70]'hz) := by
      unfold rent; simp only [Array.getElem?_toList]; exact Array.getElem?_eq_getElem hz
    rw [h2]
    unfold madeCells
    rw [Array.getElem?_map, Array.getElem?_eq_getElem (by simpa using hm)]
    simp only [Option.map_some, Array.getElem_range, Option.some.injEq]
    show (rentC zK 0 false)[m % (rentC zK 0 false).size]! = _
    rw [show m % (rentC zK 0 false).size = m % 70 by rw [rentC_size]]
    exact getElem!_pos (rentC zK 0 false) (m % 70) hz
  · rw [Array.getElem?_eq_none (by rw [hs]; omega), Array.getElem?_eq_none (by rw [rcells_size]; unfold emptyZ; simp; omega)]
/-- the reference's table. -/
structure RBx (w : World) (L : Slots) (g a : Nat) : Prop where
  tab : Blk w g 59 #[.slice (some ⟨a, 0, none⟩) L.length L.length]
  row : Blk w a 62 (rcells L)
  pos : 0 < L.length
  bd : L.length ≤ 65536
  keys : ∀ i q x, nt L i none = some (q, x) → q.1.length = 64
section
variable {w w' : World} {L : Slots} {g a : Nat}
theorem RBx.below (h : RBx w L g a) (hb : Below w.heap.size w w') : RBx w' L g a := { h with tab := h.tab.below hb h.tab.lt, row := h.row.below hb h.row.lt }
theorem RBx.types (h : RBx w L g a) (hk : ∀ g' t' cs, t' ≠ 3 → Blk w g' t' cs → Blk w' g' t' cs) : RBx w' L g a := { h with tab := hk _ _ _ (by decide) h.tab, row := hk _ _ _ (by decide) h.row }
theorem RBx.ne (h : RBx w L g a) : g ≠ a := fun e => by
  subst e; have h1 := h.tab; have h2 := h.row; unfold Blk at h1 h2; rw [h1] at h2; injection h2 with h2; injection h2 with _ h2; cases h2
theorem RBx.frame (h : RBx w L g a) {F : Nat → Prop} (hf : Fr F w w') (h1 : ¬ F g) (h2 : ¬ F a) : RBx w' L g a := { h with tab := hf.blk h.tab h1, row := hf.blk h.row h2 }
theorem RBx.put (h : RBx w L g a) {i : Nat} {q : Key} {y : Int} (hi : i < L.length) (hq : q.1.length = 64) (ho : Off a w w') (hB : Blk w' a 62 (rcells (L.set i (some (q, y))))) : RBx w' (L.set i (some (q, y))) g a := by
  have el : (L.set i (some (q, y))).length = L.length := List.length_set
  refine { tab := by rw [el]; exact h.tab.off ho h.ne, row := hB, pos := by rw [el]; exact h.pos, bd := by rw [el]; exact h.bd, keys := fun j q2 x2 hn => ?_ }
  by_cases e : j = i
  · subst e
    have : nt (L.set j (some (q, y))) j none = some (q, y) := by unfold nt; simp [List.getD, hi]
    rw [this] at hn; injection hn with hn; injection hn with e1 e2; subst e1; exact hq
  · have : nt (L.set i (some (q, y))) j none = nt L j none := by unfold nt; simp [List.getD, List.getElem?_set_ne (Ne.symm e)]
    rw [this] at hn; exact h.keys j q2 x2 hn
end
theorem RBx.new {w : World} {g a n : Nat} (hg : Blk w g 59 #[.slice (some ⟨a, 0, none⟩) n n]) (ha : Blk w a 62 (rcells (emptyZ n))) (h0 : 0 < n) (h1 : n ≤ 65536) : RBx w (emptyZ n) g a := by
  have el : (emptyZ n).length = n := by unfold emptyZ; simp
  refine { tab := by rw [el]; exact hg, row := ha, pos := by rw [el]; exact h0, bd := by rw [el]; exact h1, keys := fun i q x hn => ?_ }
  unfold emptyZ at hn; rw [nt_rep] at hn; cases hn
theorem t_aT62 : AggT Try.prog 62 70 (rentC zK 0 false) := ⟨fun w => by kernel_rfl, fun w => by kernel_rfl, fun w => by kernel_rfl, rfl⟩
theorem t_sT57 : ScT Try.prog 57 := ⟨fun w => by kernel_rfl, fun w => by kernel_rfl⟩
theorem t_us57 : Try.prog.underlying 57 = some (.slice 62) := by kernel_rfl
theorem t_size62 (w : World) : (sizeOf 62).run Try.prog w = .ok 70 w := by kernel_rfl
theorem t_fa59_0 (g : Nat) (w : World) : (Instr.fieldAt 59 (.pointer (some ⟨g, 0, none⟩)) 0).run Try.prog w = .ok (.pointer (some ⟨g, 0, none⟩)) w := by kernel_rfl
theorem t_fa62_0 (g o : Nat) (w : World) : (Instr.fieldAt 62 (.pointer (some ⟨g, o, none⟩)) 0).run Try.prog w = .ok (.pointer (some ⟨g, o, none⟩)) w := by kernel_rfl
theorem t_fa62_1 (g o : Nat) (w : World) : (Instr.fieldAt 62 (.pointer (some ⟨g, o, none⟩)) 1).run Try.prog w = .ok (.pointer (some ⟨g, o + 67, none⟩)) w := by kernel_rfl
theorem t_fa62_2 (g o : Nat) (w : World) : (Instr.fieldAt 62 (.pointer (some ⟨g, o, none⟩)) 2).run Try.prog w = .ok (.pointer (some ⟨g, o + 68, none⟩)) w := by kernel_rfl
theorem t_fa62_3 (g o : Nat) (w : World) : (Instr.fieldAt 62 (.pointer (some ⟨g, o, none⟩)) 3).run Try.prog w = .ok (.pointer (some ⟨g, o + 69, none⟩)) w := by kernel_rfl
theorem ex_satR {w : World} {o : Oper} {ev : Operand → Value} (a n c : Nat) (i : Int) (k : Nat) (hk : i = (k : Int)) (h1 : k < n) (x y : Operand) (ho : o.op = .indexAddr 57 x y) (hx : ev x = .slice (some ⟨a, 0, none⟩) n c) (hy : ev y = .int .i64 i) :
    (execOp ev o).run Try.prog w = .ok (.value (.pointer (some ⟨a, k * 70, none⟩))) w := by
  subst hk
  have := ex_satN (P := Try.prog) (w := w) (o := o) (ev := ev) (t := 57) (e := 62) (n := 70) n c (k : Int) ⟨a, 0, none⟩ _ rfl (Int.natCast_nonneg k) (by omega) t_us57 t_size62 x y ho hx hy
  rw [this, Int.toNat_natCast, add_off, Nat.zero_add]
theorem t_eT62_info : (Try.prog.info? 62).map (fun i => (i.zero, i.size, i.bytes)) = some (some (.agg (rentC zK 0 false)), 70, 112) := by kernel_rfl
theorem make57 (w : World) (n : Nat) (hn : n ≤ 65536) : (Instr.makeSlice 57 (.int .i64 (n : Int)) (.int .i64 (n : Int))).run Try.prog w = .ok (.slice (some ⟨w.heap.size, 0, none⟩) n n) (w.alloc (.cells (rcells (emptyZ n)) 62)) := by
  obtain ⟨i, h1, h2, h3, h4⟩ := info_parts t_eT62_info
  have := run_make w 57 62 i (.agg (rentC zK 0 false)) t_us57 h1 h2 .i64 .i64 (n : Int) (n : Int) (by omega) (by omega) (by rw [h4]; omega) (by omega)
  rw [this, h3]
  simp only [Int.toNat_natCast]
  rw [show (Value.agg (rentC zK 0 false)).cells = rentC zK 0 false from rfl, rc_new]
theorem ex_make57 {w : World} {o : Oper} {ev : Operand → Value} (n : Nat) (hn : n ≤ 65536) (x y : Operand) (ho : o.op = .makeSlice 57 x y) (hx : ev x = .int .i64 (n : Int)) (hy : ev y = .int .i64 (n : Int)) :
    (execOp ev o).run Try.prog w = .ok (.value (.slice (some ⟨w.heap.size, 0, none⟩) n n)) (w.alloc (.cells (rcells (emptyZ n)) 62)) := by
  unfold execOp
  simp only [ho, hx, hy, Sem.run_bind, make57 w n hn, Result.andThen_ok, Sem.run_pure]
theorem b62 (parts : List (Nat × Value)) : Try.prog.built 62 parts = Instr.fill (fun i => ([(0, 67), (67, 1), (68, 1), (69, 1)] : List (Nat × Nat)).toArray[i]?) (rentC zK 0 false) parts := by kernel_rfl
theorem rset {q : Key} (x : Int) (b : Bool) (j m : Nat) (hm : m = 64 + j) (v : Value) : (rentC q x b).setIfInBounds m v = xv (Value.int .i8) (padB q.1) (([.int .i64 q.2.1, .int .i64 q.2.2.1, .int .i64 q.2.2.2.1, .int .i64 q.2.2.2.2, .int .i64 x, .bool b] : List Value).set j v) := xv_setc (padB_len _) j m hm v
theorem build_rent {q : Key} (h : q.1.length = 64) (y : Int) (w : World) : (Instr.build 62 #[(0, .agg (pv q.1 q.2.1 q.2.2.1 q.2.2.2.1)), (1, .int .i64 q.2.2.2.2), (2, .int .i64 y), (3, .bool true)]).run Try.prog w = .ok (.agg (rentC q y true)) w := by
  refine run_build w 62 _ _ ?_
  rw [b62]
  rw [fill_step (cs' := rentC (q.1, q.2.1, q.2.2.1, q.2.2.2.1, 0) 0 false) (rfl : _ = some (0, 67)) (by show (pv _ _ _ _).size = 67; rw [pv_xv, xv_size, h]; rfl) (by rw [rentC_size]; omega) (by
    show putAt (pv _ _ _ _).toList 0 _ = _
    rw [pv_xv]; unfold rentC; rw [show padB zK.1 = zL from rfl, padB_is h]; exact put_key h _ _ _ (by simp) rfl)]
  rw [fill_step (cs' := rentC q 0 false) (rfl : _ = some (67, 1)) rfl (by show 67 + 1 ≤ _; rw [rentC_size]; omega) (by
    show (rentC _ _ _).setIfInBounds 67 _ = _
    exact rset _ _ 3 67 rfl _)]
  rw [fill_step (cs' := rentC q y false) (rfl : _ = some (68, 1)) rfl (by show 68 + 1 ≤ _; rw [rentC_size]; omega) (by
    show (rentC _ _ _).setIfInBounds 68 _ = _
    exact rset _ _ 4 68 rfl _)]
  rw [fill_step (cs' := rentC q y true) (rfl : _ = some (69, 1)) rfl (by show 69 + 1 ≤ _; rw [rentC_size]; omega) (by
    show (rentC _ _ _).setIfInBounds 69 _ = _
    exact rset _ _ 5 69 rfl _)]
  rfl
theorem rent_pos {q : Key} {x : Int} {b : Bool} (h : q.1.length = 64) : (rentC q x b).extract 0 (0 + 67) = pv q.1 q.2.1 q.2.2.1 q.2.2.2.1 := by unfold rentC; rw [pv_xv, padB_is h]; exact xv_cut h rfl rfl
theorem eqP (q q' : Key) (hb : q.1.length = 64) (hb' : q'.1.length = 64) (w : World) : (binOp .eql 46 (.agg (pv q.1 q.2.1 q.2.2.1 q.2.2.2.1)) (.agg (pv q'.1 q'.2.1 q'.2.2.1 q'.2.2.2.1))).run Try.prog w = .ok (.bool (decide (q.1 = q'.1) && ((q.2.1 == q'.2.1) && ((q.2.2.1 == q'.2.2.1) && (q.2.2.2.1 == q'.2.2.2.1))))) w := eq_bin (fun d w => eq_pos d w _ _ _ _ _ _ _ _ hb hb') (by decide) w
def posB (q q' : Key) : Bool := decide (q.1 = q'.1) && ((q.2.1 == q'.2.1) && ((q.2.2.1 == q'.2.2.1) && (q.2.2.2.1 == q'.2.2.2.1)))
theorem posB_key (q q' : Key) : decide (q = q') = (posB q q' && (q.2.2.2.2 == q'.2.2.2.2)) := by
  obtain ⟨b, t, c, e, d⟩ := q
  obtain ⟨b', t', c', e', d'⟩ := q'
  rw [Bool.eq_iff_iff]
  simp only [posB, Bool.and_eq_true, decide_eq_true_eq, beq_iff_eq, Prod.mk.injEq]
  constructor
  · rintro ⟨h1, h2, h3, h4, h5⟩; exact ⟨⟨h1, h2, h3, h4⟩, h5⟩
  · rintro ⟨⟨h1, h2, h3, h4⟩, h5⟩; exact ⟨h1, h2, h3, h4, h5⟩
end Go.Proofs.Ytpjocgebnodnoaa
