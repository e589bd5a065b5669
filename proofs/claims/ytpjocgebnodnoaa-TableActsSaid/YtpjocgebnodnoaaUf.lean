/- Tables: a new one; how many; clearing; no table. -/
import Derived.Test.YtpjocgebnodnoaaUe
import Derived.Laws.MakeOwn
namespace Go.Proofs.Ytpjocgebnodnoaa
open Go.RowKit
set_option linter.unusedVariables false
set_option linter.unusedSimpArgs false
set_option maxRecDepth 100000
section
variable {P : Program} {ops : Array Oper} {Q : Exit → Act → World → Prop} {a : Act} {w : World} {rest : List Oper} {o : Oper}
theorem ag_fixw (v : Value) (w' : World) (hr : (execOp a.eval o).run P w = .ok (.value v) w') (hgd : Region.wanted o (yielded ops a.tmps) = true) (h : wpList P ops Q rest (a.put o.dst v) w') : wpList P ops Q (o :: rest) a w := by
  refine wpList_want hgd fun K hK => ?_
  unfold Oper.wp
  rw [hr]
  exact hK _ _ h
end
theorem t_eT99_info : (Try.prog.info? 99).map (fun i => (i.zero, i.size, i.bytes)) = some (some (.pointer none), 1, 8) := by kernel_rfl
theorem made_one (n : Nat) (v : Value) : madeCells #[v] (n * 1) = Array.replicate n v := by
  apply Array.ext
  · simp [madeCells]
  · intro i h1 h2; simp [madeCells, Nat.mod_one]
theorem make94 (w : World) (n : Nat) (hn : n ≤ 65536) : (Instr.makeSlice 94 (.int .i64 (n : Int)) (.int .i64 (n : Int))).run Try.prog w = .ok (.slice (some ⟨w.heap.size, 0, none⟩) n n) (w.alloc (.cells (Array.replicate n (.pointer none)) 99)) := by
  obtain ⟨i, h1, h2, h3, h4⟩ := info_parts t_eT99_info
  have := run_make w 94 99 i (.pointer none) t_us94 h1 h2 .i64 .i64 (n : Int) (n : Int) (by omega) (by omega) (by rw [h4]; omega) (by omega)
  rw [this, h3]
  simp only [Int.toNat_natCast]
  rw [show (Value.pointer none).cells = #[Value.pointer none] from rfl, made_one]
theorem ex_make94 {w : World} {o : Oper} {ev : Operand → Value} (n : Nat) (hn : n ≤ 65536) (x y : Operand) (ho : o.op = .makeSlice 94 x y) (hx : ev x = .int .i64 (n : Int)) (hy : ev y = .int .i64 (n : Int)) :
    (execOp ev o).run Try.prog w = .ok (.value (.slice (some ⟨w.heap.size, 0, none⟩) n n)) (w.alloc (.cells (Array.replicate n (.pointer none)) 99)) := by
  unfold execOp
  simp only [ho, hx, hy, Sem.run_bind, make94 w n hn, Result.andThen_ok, Sem.run_pure]
theorem put_all (v : Value) (n : Nat) (ps : Array Value) (h : ps.size = n) : putAt (List.replicate n v) 0 ps = Array.replicate n v := by
  apply Array.ext'
  rw [putAt_list _ _ _ (by simp; omega)]
  simp [h]
theorem t_zero99 (w : World) : (zeroValue 99).run Try.prog w = .ok (.pointer none) w := by kernel_rfl
theorem ex_clear94 {w : World} {o : Oper} {ev : Operand → Value} (a n c : Nat) (ps : Array Value) (hB : Blk w a 99 ps) (hn : ps.size = n) (h0 : 0 < n) (x : Operand) (ho : o.op = .call { callee := .builtin .clear, args := #[x], argTypes := #[94] }) (hx : ev x = .slice (some ⟨a, 0, none⟩) n c) :
    (execOp ev o).run Try.prog w = .ok (.value (.tuple #[])) (w.setRow a (Array.replicate n (.pointer none))) := by
  have h : ∀ ty, (Builtin.clear_ #[94] ty #[.slice (some ⟨a, 0, none⟩) n c]).run Try.prog w = .ok (.tuple #[]) (w.setRow a (Array.replicate n (.pointer none))) := fun ty => by
    have hzc : (Builtin.zeroCells (Value.pointer none).cells n).toList = List.replicate n (Value.pointer none) := by
      rw [show (Value.pointer none).cells = #[Value.pointer none] from rfl]
      simp [Builtin.zeroCells]
      apply List.ext_getElem
      · simp
      · intro i h1 h2
        simp [Nat.mod_one]
    have hst := run_st_cells (P := Try.prog) a 0 99 (List.replicate n (Value.pointer none)) 0 ps w hB (by simp; omega) (by intro v hv'; rw [List.eq_of_mem_replicate hv']; rfl)
    rw [put_all _ _ _ hn] at hst
    obtain ⟨m, rfl⟩ : ∃ m, n = m + 1 := ⟨n - 1, by omega⟩
    simp [Builtin.clear_, run_underlying t_us94, t_zero99, hzc, hst]
  unfold execOp
  simp [ho, hx, go_sem, h]
theorem nt_rep {α : Type} (n i : Nat) (d : α) : nt (List.replicate n d) i d = d := by
  unfold nt
  rw [List.getD_eq_getElem?_getD, List.getElem?_replicate]
  split <;> rfl
/-- how many places a new table has. -/
def placesZ (n : Int) : Nat := (max 1 (min n 65536)).toNat
def emptyZ (n : Nat) : Slots := List.replicate n none
theorem TBx.new {w : World} {g a n : Nat} (hg : Blk w g 96 #[.slice (some ⟨a, 0, none⟩) n n]) (ha : Blk w a 99 (Array.replicate n (.pointer none))) (h0 : 0 < n) (h1 : n ≤ 65536) : TBx w (fun k => k = g ∨ k = a) (emptyZ n) g a (Array.replicate n (.pointer none)) := by
  have el : (emptyZ n).length = n := by unfold emptyZ; simp
  refine { tab := by rw [el]; exact hg, row := ha, size := by rw [el]; simp, fg := .inl rfl, fa := .inr rfl, lt := fun k hk => ?_, pos := by rw [el]; exact h0, bd := by rw [el]; exact h1, none_ := fun i hi _ => ?_, some_ := fun i q x hi hn => ?_, inj := fun i j b h1 h2 => ?_ }
  · rcases hk with rfl | rfl
    · exact hg.lt
    · exact ha.lt
  · rw [el] at hi; simp [hi]
  · unfold emptyZ at hn; rw [nt_rep] at hn; cases hn
  · rw [Array.getElem?_replicate] at h1
    split at h1
    · injection h1 with h1; injection h1 with h1; cases h1
    · cases h1
theorem TBx.clear_ {w w' : World} {F : Nat → Prop} {L : Slots} {g a : Nat} {ps : Array Value} (h : TBx w F L g a ps) (ho : Off a w w') (hB : Blk w' a 99 (Array.replicate L.length (.pointer none))) : TBx w' F (emptyZ L.length) g a (Array.replicate L.length (.pointer none)) := by
  have type : ∀ k t t' cs cs', Blk w k t cs → Blk w k t' cs' → t = t' := fun k t t' cs cs' h h' => by unfold Blk at h h'; rw [h] at h'; injection h' with h'; injection h'
  have el : (emptyZ L.length).length = L.length := by unfold emptyZ; simp
  have ga : g ≠ a := fun e => by subst e; have := type _ _ _ _ _ h.tab h.row; cases this
  refine { tab := by rw [el]; exact h.tab.off ho ga, row := hB, size := by rw [el]; simp, fg := h.fg, fa := h.fa, lt := fun k hk => by rw [ho.size]; exact h.lt k hk, pos := by rw [el]; exact h.pos, bd := by rw [el]; exact h.bd, none_ := fun i hi _ => ?_, some_ := fun i q x hi hn => ?_, inj := fun i j b h1 h2 => ?_ }
  · rw [el] at hi; simp [hi]
  · unfold emptyZ at hn; rw [nt_rep] at hn; cases hn
  · rw [Array.getElem?_replicate] at h1
    split at h1
    · injection h1 with h1; injection h1 with h1; cases h1
    · cases h1
def lenZ (L : Slots) : Nat := (L.filter (·.isSome)).length
theorem lenZ_le (L : Slots) : lenZ L ≤ L.length := List.length_filter_le _ _
theorem lenZ_suc {L : Slots} {j : Nat} (hj : j < L.length) : lenZ (L.take (j + 1)) = lenZ (L.take j) + (if (nt L j none).isSome then 1 else 0) := by
  have e : nt L j none = L[j] := by unfold nt; simp [List.getD, List.getElem?_eq_getElem hj]
  unfold lenZ
  rw [List.take_add_one, List.getElem?_eq_getElem hj, List.filter_append, List.length_append, e]
  congr 1
  cases h : L[j] <;> simp [h]
set_option maxHeartbeats 40000000 in
theorem new_calls (w : World) (n : Int) :
    Calls Try.prog 23 #[.int .i64 n] w fun e w' => ∃ g a ps, e = .returned (.pointer (some ⟨g, 0, none⟩)) ∧ TBx w' (fun k => k = g ∨ k = a) (emptyZ (placesZ n)) g a ps ∧ w.heap.size ≤ g ∧ w.heap.size ≤ a ∧ g ≠ a ∧ Below w.heap.size w w' := by
 have HL := hid (Below.refl w.heap.size w)
 obtain ⟨M0, hM0⟩ : ∃ M, min n 65536 = M := ⟨_, rfl⟩
 have m2_ : (if (65536 : Int) < n then 65536 else n) = M0 := by split <;> omega
 obtain ⟨N, hN_⟩ : ∃ N, placesZ n = N := ⟨_, rfl⟩
 have m3_ : max 1 M0 = (N : Int) := by rw [← hN_]; unfold placesZ; omega
 have m4_ : (if (1 : Int) < M0 then M0 else 1) = (N : Int) := by split <;> omega
 have HN := hid hN_
 have HN0 : Hid (0 < N) := hid (by omega)
 have HN1 : Hid (N ≤ 65536) := hid (by omega)
 clear hN_
 go_enter Try.func23, Try.ntmps23
 have k1 := True.intro
 have k2 := True.intro
 go_wp2_with (first
  | ((with_reducible refine gate_d (N := 6) rfl ?_); clear k1; obtain ⟨ga, hga⟩ : ∃ g_, w.heap.size = g_ := ⟨_, rfl⟩; refine ag_fixw _ _ (ex_make94 N HN1.out _ _ rfl rfl rfl) rfl ?_; obtain ⟨w1, hw1_⟩ : ∃ w_, w.alloc (.cells (Array.replicate N (.pointer none)) 99) = w_ := ⟨_, rfl⟩; rw [hw1_]; rw [hga]; have HL1 : Hid (Below w.heap.size w w1) := hid (by rw [← hw1_]; exact (Below.refl _ _).alloc (Nat.le_refl _) _); have BKa : Hid (Blk w1 ga 99 (Array.replicate N (.pointer none))) := hid (by rw [← hw1_, ← hga]; exact Blk.new _ _ _); have HGA : Hid (w.heap.size = ga) := hid hga; clear hw1_ hga HL)
  | ((with_reducible refine gate_d (N := 7) rfl ?_); refine ag_fix (.agg #[.slice (some ⟨ga, 0, none⟩) N N]) (ex_build _ _ rfl (fun w_ => by simp only [List.map_toArray, List.map_cons, List.map_nil]; kernel_rfl)) rfl ?_)
  | ((with_reducible refine gate_d (N := 8) rfl ?_); clear k2; obtain ⟨g, hg⟩ : ∃ g_, w1.heap.size = g_ := ⟨_, rfl⟩; refine ag_box (#[.slice (some ⟨ga, 0, none⟩) N N]) g hg rfl _ rfl rfl ?_; intro w2 hb_ hB_ hs_; have HG : Hid (w.heap.size ≤ g) := hid (by rw [← hg]; exact HL1.out.size); have HNE : Hid (ga < g) := hid (by rw [← hg]; exact BKa.out.lt); have HL2 := hid (HL1.out.trans (hb_.mono HG.out)); have BKa2 := hid (BKa.out.below hb_ HNE.out); have BKg := hid hB_; clear hb_ hB_ hs_ hg HL1 BKa))
 (try simp only [Act.put, sI, sZ, sS])
 go_ret
 exact ⟨g, ga, _, rfl, by rw [HN.out]; exact TBx.new BKg.out BKa2.out HN0.out HN1.out, HG.out, by rw [HGA.out]; exact Nat.le_refl _, by have := HNE.out; omega, HL2.out⟩
set_option maxHeartbeats 40000000 in
theorem places_calls {w : World} {F : Nat → Prop} {L : Slots} {g a : Nat} {ps : Array Value} (h : TBx w F L g a ps) :
    Calls Try.prog 29 #[.pointer (some ⟨g, 0, none⟩)] w fun e w' => e = .returned (.int .i64 (L.length : Int)) ∧ w = w' := by
 have TB := hid h
 clear h
 go_enter Try.func29, Try.ntmps29
 go_wp2_with (first
  | ((with_reducible refine gate_d (N := 7) rfl ?_); refine ag_fix (.pointer (some ⟨g, 0, none⟩)) (ex_field 96 0 (.pointer (some ⟨g, 0, none⟩)) (.pointer (some ⟨g, 0, none⟩)) (t_fa96_0 g) _ rfl rfl) rfl ?_)
  | ((with_reducible refine gate_d (N := 8) rfl ?_); refine ag_fix (.slice (some ⟨a, 0, none⟩) L.length L.length) (ex_get t_sT94 g 0 (.slice (some ⟨a, 0, none⟩) L.length L.length) #[.slice (some ⟨a, 0, none⟩) L.length L.length] TB.out.tab rfl _ rfl rfl) rfl ?_)
  | ((with_reducible refine gate_d (N := 9) rfl ?_); refine ag_fix (.int .i64 (L.length : Int)) (ex_len t_us94 _ _ _ _ rfl _ rfl rfl) rfl ?_))
 (try simp only [Act.put, sI, sZ, sS])
 go_ret
 exact ⟨by first | rfl | (simp; done), rfl⟩
set_option maxHeartbeats 40000000 in
theorem clear_calls {w : World} {F : Nat → Prop} {L : Slots} {g a : Nat} {ps : Array Value} (h : TBx w F L g a ps) :
    Calls Try.prog 26 #[.pointer (some ⟨g, 0, none⟩)] w fun e w' => ∃ v, e = .returned v ∧ (∃ ps', TBx w' F (emptyZ L.length) g a ps') ∧ Fr F w w' := by
 have TB := hid h
 clear h
 go_enter Try.func26, Try.ntmps26
 have k1 := True.intro
 go_wp2_with (first
  | ((with_reducible refine gate_d (N := 6) rfl ?_); refine ag_fix (.pointer (some ⟨g, 0, none⟩)) (ex_field 96 0 (.pointer (some ⟨g, 0, none⟩)) (.pointer (some ⟨g, 0, none⟩)) (t_fa96_0 g) _ rfl rfl) rfl ?_)
  | ((with_reducible refine gate_d (N := 7) rfl ?_); refine ag_fix (.slice (some ⟨a, 0, none⟩) L.length L.length) (ex_get t_sT94 g 0 (.slice (some ⟨a, 0, none⟩) L.length L.length) #[.slice (some ⟨a, 0, none⟩) L.length L.length] TB.out.tab rfl _ rfl rfl) rfl ?_)
  | (refine ag_fixw (.tuple #[]) (w.setRow a (Array.replicate L.length (.pointer none))) (ex_clear94 a L.length L.length ps TB.out.row TB.out.size TB.out.pos _ rfl rfl) rfl ?_; clear k1; obtain ⟨w1, hw1_⟩ : ∃ w_, w.setRow a (Array.replicate L.length (.pointer none)) = w_ := ⟨_, rfl⟩; rw [hw1_]; have OF : Hid (Off a w w1) := hid (by rw [← hw1_]; exact off_setRow _ _ _); have BKa : Hid (Blk w1 a 99 (Array.replicate L.length (.pointer none))) := hid (by rw [← hw1_]; exact setRow_heap w a ps _ 99 (0, 0) TB.out.row); clear hw1_))
 (try simp only [Act.put, sI, sZ, sS])
 go_end0
 exact ⟨⟨_, rfl⟩, ⟨_, TB.out.clear_ OF.out BKa.out⟩, ⟨OF.out.os, OF.out.tape, OF.out.output, Nat.le_of_eq OF.out.size.symm, fun k hk hn => OF.out.block k (fun e => hn (e ▸ TB.out.fa))⟩⟩
set_option maxHeartbeats 40000000 in
theorem len_calls {w : World} {F : Nat → Prop} {L : Slots} {g a : Nat} {ps : Array Value} (h : TBx w F L g a ps) :
    Calls Try.prog 27 #[.pointer (some ⟨g, 0, none⟩)] w fun e w' => e = .returned (.int .i64 (lenZ L : Int)) ∧ w = w' := by
 have TB := hid h
 have HB := hid h.bd
 clear h
 obtain ⟨KK, hKK_⟩ : ∃ K, L.length + 1 = K := ⟨_, rfl⟩
 have HKK := hid hKK_
 clear hKK_
 go_enter Try.func27, Try.ntmps27
 go_wp2_with (first
  | ((with_reducible refine gate_d (N := 10) rfl ?_); refine ag_fix (.pointer (some ⟨g, 0, none⟩)) (ex_field 96 0 (.pointer (some ⟨g, 0, none⟩)) (.pointer (some ⟨g, 0, none⟩)) (t_fa96_0 g) _ rfl rfl) rfl ?_)
  | ((with_reducible refine gate_d (N := 11) rfl ?_); refine ag_fix (.slice (some ⟨a, 0, none⟩) L.length L.length) (ex_get t_sT94 g 0 (.slice (some ⟨a, 0, none⟩) L.length L.length) #[.slice (some ⟨a, 0, none⟩) L.length L.length] TB.out.tab rfl _ rfl rfl) rfl ?_)
  | ((with_reducible refine gate_d (N := 12) rfl ?_); refine ag_fix (.int .i64 (L.length : Int)) (ex_len t_us94 _ _ _ _ rfl _ rfl rfl) rfl ?_))
 (try simp only [Act.put, sI, sZ, sS])
 go_loopg [3, 13] KK (fun kq v3 v13 w' => ∃ (x13 : Int) (j : Nat), v3 = .int .i64 (lenZ (L.take j) : Int) ∧ v13 = .int .i64 x13 ∧ Hid (x13 = (j : Int)) ∧ Hid (kq + j = KK) ∧ Hid (j ≤ L.length) ∧ Hid (w = w'))
 case atStart => exact ⟨0, 0, (by first | rfl | (simp; done)), (by first | rfl | (simp; done)), hid rfl, hid (by omega), hid (by omega), hid rfl⟩
 case round =>
  obtain ⟨x13, j, rfl, rfl, HJ, HK2, HJM, HW⟩ := hrel
  obtain ⟨K1, rfl⟩ : ∃ K_, gk = K_ + 1 := ⟨gk - 1, by have := HK2.out; have := HJM.out; have := HKK.out; omega⟩
  have TBr := hid (show TBx wr F L g a ps from HW.out ▸ TB.out)
  by_cases c : x13 < (L.length : Int)
  ·
   have cb : decide (x13 < (L.length : Int)) = true := decide_eq_true c
   have HC := hid c
   clear c
   have HJL : Hid (j < L.length) := hid (by have := HJ.out; have := HC.out; omega)
   have HLE : Hid (lenZ (L.take j) ≤ j) := hid (by have := lenZ_le (L.take j); rw [List.length_take] at this; omega)
   obtain ⟨m, hm_⟩ : ∃ m, lenZ (L.take j) = m := ⟨_, rfl⟩
   have HM := hid hm_
   rw [hm_]
   have HLM : Hid (m ≤ j) := hid (by rw [← hm_]; exact HLE.out)
   clear hm_ HLE
   cases hs_ : nt L j none with
   | none =>
    have HPS := hid (TBr.out.none_ j HJL.out hs_)
    have HS : Hid (lenZ (L.take (j + 1)) = m) := hid (by rw [lenZ_suc HJL.out, hs_, HM.out]; rfl)
    clear hs_
    go_wp2_with (first
     | ((with_reducible refine gate_d (N := 15) rfl ?_); refine ag_fix (.pointer (some ⟨a, j, none⟩)) (ex_satA a _ _ x13 j HJ.out HJL.out t_us94 t_sT99 _ _ rfl rfl rfl) rfl ?_)
     | ((with_reducible refine gate_d (N := 16) rfl ?_); refine ag_fix (.pointer none) (ex_get t_sT99 a j (.pointer none) ps TBr.out.row HPS.out _ rfl rfl) rfl ?_))
    (try simp only [Act.put, sI, sZ, sS])
    go_roundg K1
    case measure => omega
    case rel => exact ⟨_, j + 1, by rw [HS.out], rfl, hid (by have := HJ.out; have := HJL.out; have := HB.out; rw [k64 (by omega) (by omega)]; omega), hid (by have := HK2.out; omega), hid (by have := HJL.out; omega), HW⟩
   | some z =>
    obtain ⟨q', x'⟩ := z
    obtain ⟨b, hp_, hb_, hf_, hq_⟩ := TBr.out.some_ j q' x' HJL.out hs_
    have HPS := hid hp_
    have HS : Hid (lenZ (L.take (j + 1)) = m + 1) := hid (by rw [lenZ_suc HJL.out, hs_, HM.out]; rfl)
    clear hs_ hp_ hb_ hf_ hq_
    go_wp2_with (first
     | ((with_reducible refine gate_d (N := 15) rfl ?_); refine ag_fix (.pointer (some ⟨a, j, none⟩)) (ex_satA a _ _ x13 j HJ.out HJL.out t_us94 t_sT99 _ _ rfl rfl rfl) rfl ?_)
     | ((with_reducible refine gate_d (N := 16) rfl ?_); refine ag_fix (.pointer (some ⟨b, 0, none⟩)) (ex_get t_sT99 a j (.pointer (some ⟨b, 0, none⟩)) ps TBr.out.row HPS.out _ rfl rfl) rfl ?_))
    (try simp only [Act.put, sI, sZ, sS])
    go_roundg K1
    case measure => omega
    case rel => exact ⟨_, j + 1, by rw [HS.out, k64 (by omega) (by have := HLM.out; have := HJL.out; have := HB.out; omega)]; rfl, rfl, hid (by have := HJ.out; have := HJL.out; have := HB.out; rw [k64 (by omega) (by omega)]; omega), hid (by have := HK2.out; omega), hid (by have := HJL.out; omega), HW⟩
  ·
   have cb : decide (x13 < (L.length : Int)) = false := decide_eq_false c
   have HC := hid c
   clear c
   have HE : Hid (lenZ (L.take j) = lenZ L) := hid (by rw [List.take_of_length_le (by have := HJ.out; have := HC.out; omega)])
   go_wp2_with fail
   go_ret
   exact ⟨by rw [← HE.out]; rfl, HW.out⟩
set_option maxHeartbeats 4000000 in
theorem nput_calls (w : World) (b : List Int) (t c e d y : Int) : Calls Try.prog 24 #[.pointer none, .agg (pv b t c e), .int .i64 d, .int .i64 y] w fun e w' => ∃ v, e = .returned v ∧ Below w.heap.size w w' := by
 have HL := hid (Below.refl w.heap.size w)
 go_enter Try.func24, Try.ntmps24
 have k1 := True.intro
 go_wp2_with (first
  | ((with_reducible refine gate_d (N := 5) rfl ?_); clear k1; obtain ⟨g5, hg5⟩ : ∃ g_, w.heap.size = g_ := ⟨_, rfl⟩; refine ag_box (pv b t c e) g5 hg5 rfl _ rfl rfl ?_; intro w1 hb_ hB_ hs_; have HL1 := hid (HL.out.trans (hb_.mono (by rw [← hg5]; exact HL.out.size))); clear hb_ hB_ hs_ hg5 HL))
 (try simp only [Act.put, sI, sZ, sS])
 refine bodyPost_ret (results_none rfl _ _ _) rfl ?_
 exact ⟨_, rfl, HL1.out⟩
set_option maxHeartbeats 4000000 in
theorem nget_calls (w : World) (b : List Int) (t c e d : Int) : Calls Try.prog 28 #[.pointer none, .agg (pv b t c e), .int .i64 d] w fun e w' => e = .returned (.tuple #[.int .i64 0, .bool false]) ∧ Below w.heap.size w w' := by
 have HL := hid (Below.refl w.heap.size w)
 go_enter Try.func28, Try.ntmps28
 have k1 := True.intro
 go_wp2_with (first
  | ((with_reducible refine gate_d (N := 4) rfl ?_); clear k1; obtain ⟨g5, hg5⟩ : ∃ g_, w.heap.size = g_ := ⟨_, rfl⟩; refine ag_box (pv b t c e) g5 hg5 rfl _ rfl rfl ?_; intro w1 hb_ hB_ hs_; have HL1 := hid (HL.out.trans (hb_.mono (by rw [← hg5]; exact HL.out.size))); clear hb_ hB_ hs_ hg5 HL))
 (try simp only [Act.put, sI, sZ, sS])
 go_ret2
 exact ⟨rfl, HL1.out⟩
set_option maxHeartbeats 4000000 in
theorem nclear_calls (w : World) : Calls Try.prog 26 #[.pointer none] w fun e w' => ∃ v, e = .returned v ∧ w = w' := by
 go_enter Try.func26, Try.ntmps26
 go_wp2_with fail
 go_end0
 exact ⟨_, rfl, rfl⟩
set_option maxHeartbeats 4000000 in
theorem nlen_calls (w : World) : Calls Try.prog 27 #[.pointer none] w fun e w' => e = .returned (.int .i64 0) ∧ w = w' := by
 go_enter Try.func27, Try.ntmps27
 go_wp2_with fail
 go_ret
 exact ⟨rfl, rfl⟩
set_option maxHeartbeats 4000000 in
theorem nplaces_calls (w : World) : Calls Try.prog 29 #[.pointer none] w fun e w' => e = .returned (.int .i64 0) ∧ w = w' := by
 go_enter Try.func29, Try.ntmps29
 go_wp2_with fail
 go_ret
 exact ⟨rfl, rfl⟩
end Go.Proofs.Ytpjocgebnodnoaa
