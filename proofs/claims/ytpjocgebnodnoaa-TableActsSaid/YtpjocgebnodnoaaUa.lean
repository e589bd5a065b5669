/- Tables: what lies in memory, how names are held against one another; places in plain words. -/
import Derived.Test.YtpjocgebnodnoaaU1w
import Derived.Maps.AppendAt
namespace Go.Proofs.Ytpjocgebnodnoaa
open Go.RowKit
set_option linter.unusedVariables false
set_option linter.unusedSimpArgs false
set_option maxRecDepth 100000
theorem k64 {x : Int} (h0 : -9223372036854775808 ≤ x) (h1 : x < 9223372036854775808) : wrap64 x = x := by unfold wrap64; omega
/-- what an entry is about: a board, who is to move, rights, the square behind a pawn; a depth. -/
abbrev Key := List Int × Int × Int × Int × Int
def keyC (q : Key) : Array Value := xv (Value.int .i8) q.1 [.int .i64 q.2.1, .int .i64 q.2.2.1, .int .i64 q.2.2.2.1, .int .i64 q.2.2.2.2]
def entC (q : Key) (x : Int) : Array Value := xv (Value.int .i8) q.1 [.int .i64 q.2.1, .int .i64 q.2.2.1, .int .i64 q.2.2.2.1, .int .i64 q.2.2.2.2, .int .i64 x]
theorem pv_xv (b : List Int) (t c e : Int) : pv b t c e = xv (Value.int .i8) b [.int .i64 t, .int .i64 c, .int .i64 e] := rfl
theorem keyC_size {q : Key} (h : q.1.length = 64) : (keyC q).size = 68 := by unfold keyC; rw [xv_size, h]; rfl
theorem entC_size {q : Key} {x : Int} (h : q.1.length = 64) : (entC q x).size = 69 := by unfold entC; rw [xv_size, h]; rfl
theorem xv_cut {l : List Int} {cs cs' : List Value} {n : Nat} (hl : l.length = 64) (hn : n = 64 + cs'.length) (h : cs.take cs'.length = cs') : (xv (Value.int .i8) l cs).extract 0 (0 + n) = xv (Value.int .i8) l cs' := by
  apply Array.ext'
  unfold xv
  simp only [Array.toList_extract, List.extract_eq_take_drop, List.drop_zero, Nat.zero_add, Nat.sub_zero]
  rw [hn, show 64 + cs'.length = (l.map (Value.int .i8)).length + cs'.length by rw [List.length_map, hl], List.take_length_add_append, h]
theorem key_pos {q : Key} (h : q.1.length = 64) : (keyC q).extract 0 (0 + 67) = pv q.1 q.2.1 q.2.2.1 q.2.2.2.1 := by rw [pv_xv]; exact xv_cut h rfl rfl
theorem ent_key {q : Key} {x : Int} (h : q.1.length = 64) : (entC q x).extract 0 (0 + 68) = keyC q := xv_cut h rfl rfl
theorem t_aT98 : AggT Try.prog 98 68 (keyC (zL, 0, 0, 0, 0)) := ⟨fun w => by kernel_rfl, fun w => by kernel_rfl, fun w => by kernel_rfl, rfl⟩
theorem t_aT102 : AggT Try.prog 102 69 (entC (zL, 0, 0, 0, 0) 0) := ⟨fun w => by kernel_rfl, fun w => by kernel_rfl, fun w => by kernel_rfl, rfl⟩
theorem t_sT99 : ScT Try.prog 99 := ⟨fun w => by kernel_rfl, fun w => by kernel_rfl⟩
theorem t_sT94 : ScT Try.prog 94 := ⟨fun w => by kernel_rfl, fun w => by kernel_rfl⟩
theorem t_sT3 : ScT Try.prog 3 := ⟨fun w => by kernel_rfl, fun w => by kernel_rfl⟩
theorem t_us94 : Try.prog.underlying 94 = some (.slice 99) := by kernel_rfl
theorem t_us27 : Try.prog.underlying 27 = some (.slice 3) := by kernel_rfl
theorem part_agg {P : Program} {t : TypeId} {n : Nat} {z : Array Value} (T : AggT P t n z) (xs : Array Value) (off : Nat) (w : World) : (part t xs off).run P w = .ok (.agg (xs.extract off (off + n))) w := by
  unfold part; simp [T.agg, T.size]
theorem part_one {P : Program} {t : TypeId} (T : ScT P t) (xs : Array Value) (off : Nat) (v : Value) (h : xs[off]? = some v) (w : World) : (part t xs off).run P w = .ok v w := by
  unfold part; simp [T.agg, h]
theorem eq_int3 (d : Nat) (w : World) (x y : Int) : (Op.equalIn (d + 1) 3 (.int .i64 x) (.int .i64 y)).run Try.prog w = .ok (x == y) w := run_equalIn_int w d 3 .i64 .i64 x y (by kernel_rfl)
theorem eq_pos (d : Nat) (w : World) (b b' : List Int) (t c e t' c' e' : Int) (hb : b.length = 64) (hb' : b'.length = 64) : (Op.equalIn (d + 3) 46 (.agg (pv b t c e)) (.agg (pv b' t' c' e'))).run Try.prog w = .ok (decide (b = b') && ((t == t') && ((c == c') && (e == e')))) w := by
  have cell : ∀ (l : List Int) (t c e : Int), l.length = 64 → (pv l t c e)[64]? = some (.int .i64 t) ∧ (pv l t c e)[65]? = some (.int .i64 c) ∧ (pv l t c e)[66]? = some (.int .i64 e) := fun l t c e hl => by
    rw [pv_xv]; exact ⟨(xv_cell (n := 64) hl 0 64 rfl).trans rfl, (xv_cell (n := 64) hl 1 65 rfl).trans rfl, (xv_cell (n := 64) hl 2 66 rfl).trans rfl⟩
  have brd : ∀ (l : List Int) (t c e : Int), l.length = 64 → (pv l t c e).extract 0 (0 + 64) = bv l := fun l t c e hl => by rw [pv_xv]; exact xv_exa hl
  refine eqs_of Try.underlying46 (by kernel_rfl) ?_
  refine eqs_more (by rfl) (part_agg boardT _ _ _) (part_agg boardT _ _ _) (by
    show (Op.equalIn (d + 2) 44 (.agg ((pv b t c e).extract 0 (0 + 64))) (.agg ((pv b' t' c' e').extract 0 (0 + 64)))).run Try.prog w = _
    rw [brd b t c e hb, brd b' t' c' e' hb']; exact run_eq_board d b b' hb hb' w) ?_
  refine eqs_more (by rfl) (part_one t_sT3 _ _ _ (cell b t c e hb).1 _) (part_one t_sT3 _ _ _ (cell b' t' c' e' hb').1 _) (eq_int3 _ _ _ _) ?_
  refine eqs_more (by rfl) (part_one t_sT3 _ _ _ (cell b t c e hb).2.1 _) (part_one t_sT3 _ _ _ (cell b' t' c' e' hb').2.1 _) (eq_int3 _ _ _ _) ?_
  exact eqs_last (by rfl) (part_one t_sT3 _ _ _ (cell b t c e hb).2.2 _) (part_one t_sT3 _ _ _ (cell b' t' c' e' hb').2.2 _) (eq_int3 _ _ _ _)
theorem eq_name (d : Nat) (w : World) (q q' : Key) (hb : q.1.length = 64) (hb' : q'.1.length = 64) : (Op.equalIn (d + 4) 98 (.agg (keyC q)) (.agg (keyC q'))).run Try.prog w = .ok (decide (q = q')) w := by
  have cell : ∀ (q : Key), q.1.length = 64 → (keyC q)[67]? = some (.int .i64 q.2.2.2.2) := fun q hl => (xv_cell (n := 64) hl 3 67 rfl).trans rfl
  have h : (Op.equalIn (d + 4) 98 (.agg (keyC q)) (.agg (keyC q'))).run Try.prog w = .ok ((decide (q.1 = q'.1) && ((q.2.1 == q'.2.1) && ((q.2.2.1 == q'.2.2.1) && (q.2.2.2.1 == q'.2.2.2.1)))) && (q.2.2.2.2 == q'.2.2.2.2)) w := by
    refine eqs_of Try.underlying98 (by kernel_rfl) ?_
    refine eqs_more (by rfl) (part_agg posT _ _ _) (part_agg posT _ _ _) (by
      show (Op.equalIn (d + 3) 46 (.agg ((keyC q).extract 0 (0 + 67))) (.agg ((keyC q').extract 0 (0 + 67)))).run Try.prog w = _
      rw [key_pos hb, key_pos hb']; exact eq_pos d w _ _ _ _ _ _ _ _ hb hb') ?_
    exact eqs_last (by rfl) (part_one t_sT3 _ _ _ (cell q hb) _) (part_one t_sT3 _ _ _ (cell q' hb') _) (eq_int3 _ _ _ _)
  rw [h]
  congr 1
  obtain ⟨b, t, c, e, d⟩ := q
  obtain ⟨b', t', c', e', d'⟩ := q'
  rw [Bool.eq_iff_iff]
  simp only [Bool.and_eq_true, decide_eq_true_eq, beq_iff_eq, Prod.mk.injEq]
  constructor
  · rintro ⟨⟨h1, h2, h3, h4⟩, h5⟩; exact ⟨h1, h2, h3, h4, h5⟩
  · rintro ⟨h1, h2, h3, h4, h5⟩; exact ⟨⟨h1, h2, h3, h4⟩, h5⟩
theorem eql_name (q q' : Key) (hb : q.1.length = 64) (hb' : q'.1.length = 64) (w : World) : (binOp .eql 98 (.agg (keyC q)) (.agg (keyC q'))).run Try.prog w = .ok (.bool (decide (q = q'))) w := eq_bin (fun d w => eq_name d w q q' hb hb') (by decide) w
/-- a table in memory: its block, the row of its places, an entry's block for each place that is taken; all in F. -/
abbrev Slots := List (Option (Key × Int))
structure TBx (w : World) (F : Nat → Prop) (L : Slots) (g a : Nat) (ps : Array Value) : Prop where
  tab : Blk w g 96 #[.slice (some ⟨a, 0, none⟩) L.length L.length]
  row : Blk w a 99 ps
  size : ps.size = L.length
  fg : F g
  fa : F a
  lt : ∀ k, F k → k < w.heap.size
  pos : 0 < L.length
  bd : L.length ≤ 65536
  none_ : ∀ i, i < L.length → nt L i none = none → ps[i]? = some (Value.pointer none)
  some_ : ∀ i q x, i < L.length → nt L i none = some (q, x) → ∃ b, ps[i]? = some (Value.pointer (some ⟨b, 0, none⟩)) ∧ Blk w b 102 (entC q x) ∧ F b ∧ q.1.length = 64
  inj : ∀ (i j b : Nat), ps[i]? = some (Value.pointer (some ⟨b, 0, none⟩)) → ps[j]? = some (Value.pointer (some ⟨b, 0, none⟩)) → i = j
/-- nothing but F, and new blocks, changed. -/
structure Fr (F : Nat → Prop) (w w' : World) : Prop where
  os : w'.os = w.os
  tape : w'.tape = w.tape
  output : w'.output = w.output
  size : w.heap.size ≤ w'.heap.size
  block : ∀ k, k < w.heap.size → ¬ F k → w'.heap[k]? = w.heap[k]?
section
variable {w w' w2 : World} {F : Nat → Prop} {L : Slots} {g a B : Nat} {ps : Array Value}
theorem Fr.below (h : Fr F w w') (hF : ∀ k, F k → B ≤ k) (hB : B ≤ w.heap.size) : Below B w w' := ⟨h.os, h.tape, h.output, h.size, fun k hk => h.block k (by omega) (fun hf => by have := hF k hf; omega)⟩
theorem Fr.of_below (h : Below w.heap.size w w') : Fr F w w' := ⟨h.os, h.tape, h.output, h.size, fun k hk _ => h.block k hk⟩
theorem Fr.trans (h : Fr F w w') {F' : Nat → Prop} (h2 : Fr F' w' w2) (hF : ∀ k, k < w.heap.size → F' k → F k) : Fr F w w2 :=
  ⟨h2.os.trans h.os, h2.tape.trans h.tape, h2.output.trans h.output, Nat.le_trans h.size h2.size, fun k hk hn => (h2.block k (Nat.lt_of_lt_of_le hk h.size) (fun hf => hn (hF k hk hf))).trans (h.block k hk hn)⟩
theorem Fr.blk {k t : Nat} {cs : Array Value} (h : Fr F w w') (hb : Blk w k t cs) (hn : ¬ F k) : Blk w' k t cs := (h.block k hb.lt hn).trans hb
/-- what does not touch it leaves a table as it is. -/
theorem TBx.keep (h : TBx w F L g a ps) (hs : w.heap.size ≤ w'.heap.size) (hk : ∀ k, F k → w'.heap[k]? = w.heap[k]?) : TBx w' F L g a ps :=
  { h with tab := (hk g h.fg).trans h.tab, row := (hk a h.fa).trans h.row, lt := fun k hf => Nat.lt_of_lt_of_le (h.lt k hf) hs, some_ := fun i q x hi hn => by obtain ⟨b, h1, h2, h3, h4⟩ := h.some_ i q x hi hn; exact ⟨b, h1, (hk b h3).trans h2, h3, h4⟩ }
theorem TBx.below (h : TBx w F L g a ps) (hb : Below w.heap.size w w') : TBx w' F L g a ps := h.keep hb.size fun k hf => hb.block k (h.lt k hf)
theorem TBx.frame (h : TBx w F L g a ps) {F' : Nat → Prop} (hf : Fr F' w w') (hd : ∀ k, F k → ¬ F' k) : TBx w' F L g a ps := h.keep hf.size fun k hk => hf.block k (h.lt k hk) (hd k hk)
/-- an entry's value is told anew. -/
theorem TBx.tell (h : TBx w F L g a ps) {i : Nat} {q : Key} {x y : Int} {b : Nat} (hi : i < L.length) (hn : nt L i none = some (q, x)) (hp : ps[i]? = some (Value.pointer (some ⟨b, 0, none⟩))) (ho : Off b w w') (hB : Blk w' b 102 (entC q y)) : TBx w' F (L.set i (some (q, y))) g a ps := by
  obtain ⟨b', h1, h2, h3, h4⟩ := h.some_ i q x hi hn
  obtain rfl : b' = b := by rw [hp] at h1; injection h1 with h1; injection h1 with h1; injection h1 with h1; injection h1 with h1; exact h1.symm
  have type : ∀ k t cs cs', Blk w k t cs → Blk w k 102 cs' → t = 102 := fun k t cs cs' h h' => by unfold Blk at h h'; rw [h] at h'; injection h' with h'; injection h'
  have el : (L.set i (some (q, y))).length = L.length := List.length_set
  have gb : g ≠ b' := fun e => by subst e; have := type _ _ _ _ h.tab h2; cases this
  have ab : a ≠ b' := fun e => by subst e; have := type _ _ _ _ h.row h2; cases this
  have ne : ∀ j, j ≠ i → nt (L.set i (some (q, y))) j none = nt L j none := fun j hj => by unfold nt; simp [List.getD, List.getElem?_set_ne (Ne.symm hj)]
  have eq : nt (L.set i (some (q, y))) i none = some (q, y) := by unfold nt; simp [List.getD, hi]
  refine { tab := by rw [el]; exact h.tab.off ho gb, row := h.row.off ho ab, size := by rw [el]; exact h.size, fg := h.fg, fa := h.fa, lt := fun k hf => by rw [ho.size]; exact h.lt k hf, pos := by rw [el]; exact h.pos, bd := by rw [el]; exact h.bd, none_ := fun j hj hn2 => ?_, some_ := fun j q2 x2 hj hn2 => ?_, inj := h.inj }
  · by_cases e : j = i
    · subst e; rw [eq] at hn2; cases hn2
    · rw [ne j e] at hn2; exact h.none_ j (by rw [← el]; exact hj) hn2
  · by_cases e : j = i
    · subst e; rw [eq] at hn2; injection hn2 with hn2; injection hn2 with e1 e2; subst e1; subst e2
      exact ⟨b', hp, hB, h3, h4⟩
    · rw [ne j e] at hn2
      obtain ⟨b2, c1, c2, c3, c4⟩ := h.some_ j q2 x2 (by rw [← el]; exact hj) hn2
      exact ⟨b2, c1, c2.off ho (fun e2 => by subst e2; exact e (h.inj _ _ _ c1 hp)), c3, c4⟩
/-- a new entry takes a place. -/
theorem TBx.take_ (h : TBx w F L g a ps) {i : Nat} {q : Key} {y : Int} {b : Nat} (hi : i < L.length) (hq : q.1.length = 64) (hb : Blk w b 102 (entC q y)) (hf : ¬ F b) (ho : Off a w w') (hB : Blk w' a 99 (ps.setIfInBounds i (Value.pointer (some ⟨b, 0, none⟩)))) :
    TBx w' (fun k => F k ∨ k = b) (L.set i (some (q, y))) g a (ps.setIfInBounds i (Value.pointer (some ⟨b, 0, none⟩))) := by
  have type : ∀ k t t' cs cs', Blk w k t cs → Blk w k t' cs' → t = t' := fun k t t' cs cs' h h' => by unfold Blk at h h'; rw [h] at h'; injection h' with h'; injection h'
  have el : (L.set i (some (q, y))).length = L.length := List.length_set
  have ga : g ≠ a := fun e => by subst e; have := type _ _ _ _ _ h.tab h.row; cases this
  have ba : b ≠ a := fun e => by subst e; exact hf h.fa
  have ne : ∀ j, j ≠ i → nt (L.set i (some (q, y))) j none = nt L j none := fun j hj => by unfold nt; simp [List.getD, List.getElem?_set_ne (Ne.symm hj)]
  have eq : nt (L.set i (some (q, y))) i none = some (q, y) := by unfold nt; simp [List.getD, hi]
  have pne : ∀ j, j ≠ i → (ps.setIfInBounds i (Value.pointer (some ⟨b, 0, none⟩)))[j]? = ps[j]? := fun j hj => by rw [Array.getElem?_setIfInBounds_ne (Ne.symm hj)]
  have peq : (ps.setIfInBounds i (Value.pointer (some ⟨b, 0, none⟩)))[i]? = some (Value.pointer (some ⟨b, 0, none⟩)) := Array.getElem?_setIfInBounds_self_of_lt (by rw [h.size]; exact hi)
  have old : ∀ j c, ps[j]? = some (Value.pointer (some ⟨c, 0, none⟩)) → c ≠ b := fun j c hj e => by
    subst e
    have hjl : j < L.length := by rw [← h.size]; exact (Array.getElem?_eq_some_iff.1 hj).1
    cases hn : nt L j none with
    | none => rw [h.none_ j hjl hn] at hj; injection hj with hj; injection hj with hj; cases hj
    | some z =>
      obtain ⟨c2, c3, _, c4, _⟩ := h.some_ j z.1 z.2 hjl hn
      rw [hj] at c3; injection c3 with c3; injection c3 with c3; injection c3 with c3; injection c3 with c3
      subst c3; exact hf c4
  refine { tab := by rw [el]; exact h.tab.off ho ga, row := hB, size := by rw [el, Array.size_setIfInBounds]; exact h.size, fg := .inl h.fg, fa := .inl h.fa, lt := fun k hk => ?_, pos := by rw [el]; exact h.pos, bd := by rw [el]; exact h.bd, none_ := fun j hj hn2 => ?_, some_ := fun j q2 x2 hj hn2 => ?_, inj := fun j1 j2 c h1 h2 => ?_ }
  · rw [ho.size]; rcases hk with hk | rfl; exact h.lt k hk; exact hb.lt
  · by_cases e : j = i
    · subst e; rw [eq] at hn2; cases hn2
    · rw [ne j e] at hn2; rw [pne j e]; exact h.none_ j (by rw [← el]; exact hj) hn2
  · by_cases e : j = i
    · subst e; rw [eq] at hn2; injection hn2 with hn2; injection hn2 with e1 e2; subst e1; subst e2
      exact ⟨b, peq, hb.off ho ba, .inr rfl, hq⟩
    · rw [ne j e] at hn2
      obtain ⟨b2, c1, c2, c3, c4⟩ := h.some_ j q2 x2 (by rw [← el]; exact hj) hn2
      exact ⟨b2, by rw [pne j e]; exact c1, c2.off ho (fun e2 => by subst e2; have := type _ _ _ _ _ c2 h.row; cases this), .inl c3, c4⟩
  · by_cases e1 : j1 = i
    · by_cases e2 : j2 = i
      · rw [e1, e2]
      · exfalso; subst e1; rw [peq] at h1; rw [pne j2 e2] at h2
        injection h1 with h1; injection h1 with h1; injection h1 with h1; injection h1 with h1
        exact old j2 c h2 h1.symm
    · by_cases e2 : j2 = i
      · exfalso; subst e2; rw [peq] at h2; rw [pne j1 e1] at h1
        injection h2 with h2; injection h2 with h2; injection h2 with h2; injection h2 with h2
        exact old j1 c h1 h2.symm
      · rw [pne j1 e1] at h1; rw [pne j2 e2] at h2; exact h.inj j1 j2 c h1 h2
end
/-- where an entry may stand. -/
def keyZ (q : Key) : Int := (i_key_Of.f 200 q.1 q.2.1 q.2.2.1 q.2.2.2.1).getD 0
def homeZ (n : Nat) (q : Key) : Nat := (IntKind.u64.wrap (keyZ q + IntKind.u64.wrap q.2.2.2.2) % (n : Int)).toNat
def rowZ (n : Nat) (q : Key) : List Nat := (List.range (min 4 n)).map fun i => (homeZ n q + i) % n
theorem homeZ_lt {n : Nat} (h : 0 < n) (q : Key) : homeZ n q < n := by
  unfold homeZ
  have h1 := Int.emod_lt_of_pos (IntKind.u64.wrap (keyZ q + IntKind.u64.wrap q.2.2.2.2)) (show (0 : Int) < (n : Int) by omega)
  have h2 := Int.emod_nonneg (IntKind.u64.wrap (keyZ q + IntKind.u64.wrap q.2.2.2.2)) (show (n : Int) ≠ 0 by omega)
  omega
theorem rowZ_lt {n : Nat} (h : 0 < n) (q : Key) : ∀ i ∈ rowZ n q, i < n := by
  intro i hi
  obtain ⟨j, _, rfl⟩ := List.mem_map.1 hi
  exact Nat.mod_lt _ h
theorem rowZ_len (n : Nat) (q : Key) : (rowZ n q).length = min 4 n := by unfold rowZ; simp
/-- is a place that of an entry? -/
def atB (L : Slots) (q : Key) (i : Nat) : Bool := match nt L i none with | some (q', _) => decide (q' = q) | none => false
def findZ_ (L : Slots) (q : Key) : Option Nat := (rowZ L.length q).find? (atB L q)
end Go.Proofs.Ytpjocgebnodnoaa
