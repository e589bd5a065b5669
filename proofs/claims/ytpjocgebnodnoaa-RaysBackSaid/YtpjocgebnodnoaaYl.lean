/- Rays: a ray's squares are laid into the table's one piece of memory. -/
import Derived.Test.YtpjocgebnodnoaaYk
namespace Go.Proofs.Ytpjocgebnodnoaa
open Go.RowKit
set_option linter.unusedVariables false
set_option linter.unusedSimpArgs false
set_option maxRecDepth 100000
theorem y_sT27 : ScT Try.prog 27 := ⟨fun w => by kernel_rfl, fun w => by kernel_rfl⟩
theorem y_sT3 : ScT Try.prog 3 := ⟨fun w => by kernel_rfl, fun w => by kernel_rfl⟩
theorem y_us27 : Try.prog.underlying 27 = some (.slice 3) := by kernel_rfl
theorem y_aT29 : AggT Try.prog 29 1 #[.slice none 0 0] := ⟨fun w => by kernel_rfl, fun w => by kernel_rfl, fun w => by kernel_rfl, rfl⟩
theorem y_fa82_1 (g : Nat) (w : World) : (Instr.fieldAt 82 (.pointer (some ⟨g, 0, none⟩)) 1).run Try.prog w = .ok (.pointer (some ⟨g, 832, none⟩)) w := by kernel_rfl
theorem y_eT27_info : (Try.prog.info? 3).map (fun i => (i.zero, i.size, i.bytes)) = some (some (.int .i64 0), 1, 8) := by kernel_rfl
theorem y_eT27 : ElemT Try.prog 27 3 8 := ⟨by kernel_rfl, by
  obtain ⟨i, h1, h2, h3, h4⟩ := info_parts y_eT27_info
  exact ⟨i, _, h1, h2, h3, h4, rfl⟩⟩
/-- a full part of a slice. -/
theorem ex_sl3 {P : Program} {t e : TypeId} {w : World} {o : Oper} {ev : Operand → Value} (hu : P.underlying t = some (.slice e)) (hz : ScT P e) (gb m c : Nat) (v : Value) (hv : v = .slice (some ⟨gb, 0, none⟩) m c) (i j : Nat) (h0 : i < j) (h1 : j ≤ c) (x y y2 y3 : Operand) (ho : o.op = .slice t x (some y) (some y2) (some y3)) (hx : ev x = v) (hy : ev y = .int .i64 i) (hy2 : ev y2 = .int .i64 j) (hy3 : ev y3 = .int .i64 j) :
    (execOp ev o).run P w = .ok (.value (.slice (some ⟨gb, i, none⟩) (j - i) (j - i))) w := by
  subst hv
  unfold execOp
  have e1 : (⟨gb, 0, none⟩ : Addr).add (i * 1) = ⟨gb, i, none⟩ := by rw [add_off]; simp
  simp [ho, hx, hy, hy2, hy3, Instr.sliceAt, Instr.slice, run_underlying hu, Instr.sliceBounds, run_sliceBound, h1, show i ≤ j by omega, show ¬ j = i by omega, hz.size, add_off]
theorem grew_blk {e t : TypeId} {w w1 : World} {v v' : Value} {n k B : Nat} {xs : List Value} {c : Array Value} (hg : Grew e w w1 v v' n) (ho : Own w B e v xs) (hb : Blk w k t c) (hne : t ≠ e) : Blk w1 k t c := by
  refine (hg.other k hb.lt (fun hv => ?_)).trans hb
  rcases ho.form with ⟨rfl, _⟩ | ⟨g2, cap, cur, rfl, _, hh, _⟩
  · simp [Value.ownBlock] at hv
  · obtain rfl : g2 = k := by simpa [Value.ownBlock] using hv
    exact hne (blk_type hb hh)
theorem MKx.far29 {rz : Nat → List (List Int)} {w0 w w' : World} {g d N gb : Nat} {P : List (List Int)} {pc : List (Value × List Int)} {cs c : Array Value} {v : Value} {all : List Value} (h : MKx rz w0 w g d N P pc cs v all) (hb : Blk w gb 29 c) (hg : g < gb) (hw : w0.heap.size ≤ gb)
    (hn : ∀ i x k, i < 832 → cs[i]? = some x → x.ownBlock = some k → k ≠ gb) (ho : Off gb w w') : MKx rz w0 w' g d N P pc cs v all := by
  have b3 : ∀ k c, Blk w k 3 c → Blk w' k 3 c := fun k c hh => hh.off ho (fun e => by subst e; have := blk_type hh hb; cases this)
  refine { h with below := ho.below h.below hw, blk := h.blk.off ho (by omega), own := h.own.move fun k c _ hh => b3 k c hh, rows := fun i hi => ?_, pcs := fun q hq => (h.pcs q hq).move b3 }
  obtain ⟨x, c1, c2, c3, c4⟩ := h.rows i hi
  have bx : ∀ k c, x.ownBlock = some k → Blk w k 29 c → Blk w' k 29 c := fun k c hk hh => hh.off ho (hn i x k hi c1 hk)
  exact ⟨x, c1, fun hh => (c2 hh).moves bx fun u l hp => hp.move b3, fun hh => (c3 hh).moves bx fun u l hp => hp.move b3, c4⟩
set_option maxHeartbeats 4000000 in
theorem lay_calls {rz : Nat → List (List Int)} {w0 w : World} {g d N : Nat} {P : List (List Int)} {cs : Array Value} {v : Value} {all : List Value} (h : MKx rz w0 w g d N P [] cs v all) (hd : d < 832) (y : Value) (hy : Hid (cs[d]? = some y)) (vl : Value) (l : List Int) (hl : Sl w vl (l.map (Value.int .i64))) (hne : 0 < l.length) (hN : N + l.length ≤ 1000000) :
    Calls Try.prog 51 #[.pointer (some ⟨g, 0, none⟩), vl] w fun e w' => ∃ u cs' v' all', e = .returned (.agg #[u]) ∧ MKx rz w0 w' g d (N + l.length) P [(u, l)] cs' v' all' ∧ cs'[d]? = some y ∧ w.heap.size ≤ w'.heap.size ∧ (∀ k c, Blk w k 87 c → Blk w' k 87 c) := by
 have MK0 := hid h
 clear h
 have HY := hid hy
 clear hy
 have SPl := hid hl
 clear hl
 have HNE := hid hne
 clear hne
 have HN := hid hN
 clear hN
 go_enter Try.func51, Try.ntmps51
 obtain ⟨gb, hgb⟩ : ∃ g_, w.heap.size = g_ := ⟨_, rfl⟩
 obtain ⟨A_, c_, hv_⟩ := MK0.out.own.shape
 have HV := hid hv_
 clear hv_
 have BN0 : Hid (∀ i x k, i < 832 → cs[i]? = some x → x.ownBlock = some k → k < gb) := hid (fun i x k hi hx hk => by rw [← hgb]; exact (MK0.out.row_lt hi hx k hk).1)
 have SB : Hid (w0.heap.size ≤ w.heap.size) := hid MK0.out.below.size
 have k1 := True.intro
 go_wp2_with (first
  | ((with_reducible refine gate_d (N := 4) rfl ?_); clear k1; refine ag_alloc y_aT29 gb hgb rfl rfl ?_; intro w1 hb_ hB_ hs_; have MK1 := hid (MK0.out.go (by rw [hgb]; exact hb_)); have SP1 := hid (SPl.out.below (by rw [hgb]; exact hb_)); have BKb := hid hB_; have NB : Hid (g < gb) := hid (by rw [← hgb]; exact MK0.out.blk.lt); have SZ1 : Hid (w.heap.size ≤ w1.heap.size) := hid hb_.size; have KP1 : Hid (∀ k c, Blk w k 87 c → Blk w1 k 87 c) := hid (fun k c hh => hh.below hb_ (by rw [← hgb]; exact hh.lt)); clear hb_ hB_ hs_ MK0 SPl)
  | ((with_reducible refine gate_d (N := 8) rfl ?_); refine ag_fix (.pointer (some ⟨g, 832, none⟩)) (ex_field 82 1 (.pointer (some ⟨g, 0, none⟩)) (.pointer (some ⟨g, 832, none⟩)) (y_fa82_1 g) _ rfl rfl) rfl ?_)
  | ((with_reducible refine gate_d (N := 9) rfl ?_); refine ag_fix (v) (ex_get y_sT27 g 832 v cs MK1.out.blk MK1.out.cell _ rfl rfl) rfl ?_)
  | ((with_reducible refine gate_d (N := 10) rfl ?_); refine ag_fix (.int .i64 (all.length : Int)) (ex_len y_us27 _ _ _ _ HV.out _ rfl rfl) rfl ?_)
  | ((with_reducible refine gate_d (N := 14) rfl ?_); refine ag_fix (.pointer (some ⟨g, 832, none⟩)) (ex_field 82 1 (.pointer (some ⟨g, 0, none⟩)) (.pointer (some ⟨g, 832, none⟩)) (y_fa82_1 g) _ rfl rfl) rfl ?_)
  | ((with_reducible refine gate_d (N := 15) rfl ?_); refine ag_fix (v) (ex_get y_sT27 g 832 v cs MK1.out.blk MK1.out.cell _ rfl rfl) rfl ?_)
  | ((with_reducible refine gate_d (N := 17) rfl ?_); refine app_grew y_eT27 w0.heap.size v vl all (l.map (Value.int .i64)) MK1.out.own SP1.out (by rw [List.length_map]; exact HNE.out) (by intro u_ hu_; rw [List.mem_map] at hu_; obtain ⟨_, _, rfl⟩ := hu_; rfl) (by have h1_ := MK1.out.len; have h2_ := HN.out; rw [List.length_map]; omega) (by have h1_ := MK1.out.len; have h2_ := HN.out; rw [List.length_map]; unfold maxLen; omega) MK1.out.below.size rfl _ _ rfl rfl rfl ?_; intro v' w2 ho_ hg_; have OW2 := hid ho_; have GR := hid hg_; have B82 := hid (grew_blk hg_ MK1.out.own MK1.out.blk (by decide)); have B29 := hid (grew_blk hg_ MK1.out.own BKb.out (by decide)); have KP2 : Hid (∀ k c, Blk w k 87 c → Blk w2 k 87 c) := hid (fun k c hh => grew_blk hg_ MK1.out.own (KP1.out k c hh) (by decide)); clear KP1; clear ho_ hg_)
  | ((with_reducible refine gate_d (N := 19) rfl ?_); refine ag_fix (.pointer (some ⟨g, 832, none⟩)) (ex_field 82 1 (.pointer (some ⟨g, 0, none⟩)) (.pointer (some ⟨g, 832, none⟩)) (y_fa82_1 g) _ rfl rfl) rfl ?_)
  | ((with_reducible refine gate_s (t := 27) (p := 19) rfl ?_); refine ag_set y_sT27 g 832 v' cs (cs.setIfInBounds 832 v') B82.out (by rw [MK1.out.size]; omega) (by obtain ⟨A_, c_, h_⟩ := OW2.out.shape; rw [h_]; rfl) (by obtain ⟨A_, c_, h_⟩ := OW2.out.shape; rw [h_]; rfl) rfl rfl _ _ rfl rfl rfl ?_; intro w3 ho_ hB_; have OF := hid ho_; have B83 := hid hB_; clear ho_ hB_))
 (try simp only [Act.put, sI, sZ, sS])
 obtain ⟨gv, cap, ev_, hc_, MK3_⟩ := MK1.out.laid HNE.out OW2.out GR.out OF.out B83.out
 have HV' := hid ev_
 have HC := hid hc_
 have MK3 := hid MK3_
 have BK3 := hid (B29.out.off OF.out (fun e => by have := NB.out; omega))
 have SZ3 : Hid (w.heap.size ≤ w3.heap.size) := hid (by have := SZ1.out; have := GR.out.size; rw [OF.out.size]; omega)
 have HY3 : Hid ((cs.setIfInBounds 832 v')[d]? = some y) := hid (by rw [Array.getElem?_setIfInBounds_ne (by omega)]; exact HY.out.out)
 have KP3 : Hid (∀ k c, Blk w k 87 c → Blk w3 k 87 c) := hid (fun k c hh => (KP2.out k c hh).off OF.out (fun e => by subst e; have := blk_type (KP2.out k c hh) B82.out; cases this))
 clear KP2
 clear MK3_ hc_ ev_ B29 B82 B83 OF GR OW2 MK1 SP1 SZ1 BKb
 have BN3 : Hid (∀ i x k, i < 832 → (cs.setIfInBounds 832 v')[i]? = some x → x.ownBlock = some k → k < gb) := hid (fun i x k hi hx hk => by rw [Array.getElem?_setIfInBounds_ne (by omega)] at hx; exact BN0.out i x k hi hx hk)
 clear BN0
 obtain ⟨cs3, hcs3⟩ : ∃ c, cs.setIfInBounds 832 v' = c := ⟨_, rfl⟩
 rw [hcs3] at MK3 HY3 BN3
 clear hcs3
 refine sq_region (fun w'_ => Blk w'_ g 82 cs3) [] [(0, 2), (1, 2), (2, 2), (3, 1), (4, 2), (5, 2), (6, 2), (7, 2), (8, 1), (9, 2), (10, 2), (11, 2), (12, 2), (13, 1), (14, 2), (15, 2), (16, 2), (17, 0)] (by kernel_rfl) (by kernel_rfl) (by kernel_rfl) rfl ?_
 intro w4 hb_
 have MK4 := hid (MK3.out.go hb_)
 have BK4 := hid (BK3.out.below hb_ BK3.out.lt)
 have SZ4 : Hid (w.heap.size ≤ w4.heap.size) := hid (Nat.le_trans SZ3.out hb_.size)
 have KP4 : Hid (∀ k c, Blk w k 87 c → Blk w4 k 87 c) := hid (fun k c hh => (KP3.out k c hh).below hb_ (KP3.out k c hh).lt)
 clear KP3
 clear hb_ MK3 BK3 SZ3
 refine sq_pure (.pointer (some ⟨g, 0, none⟩)) rfl (fun w'_ => ex_mv (.tmp 0) (.inl rfl) _ rfl) rfl rfl ?_
 intro ts_ ht_; simp only [sI, sZ, sS] at ht_; subst ht_
 refine sq_pure (.pointer (some ⟨g, 0, none⟩)) rfl (fun w'_ => by go_simp) rfl rfl ?_
 intro ts_ ht_; simp only [sI, sZ, sS] at ht_; subst ht_
 refine sq_pure (.pointer (some ⟨g, 832, none⟩)) rfl (fun w'_ => ex_field 82 1 (.pointer (some ⟨g, 0, none⟩)) (.pointer (some ⟨g, 832, none⟩)) (y_fa82_1 g) _ rfl rfl) rfl rfl ?_
 intro ts_ ht_; simp only [sI, sZ, sS] at ht_; subst ht_
 refine sq_take (v') MK4.out.blk rfl (fun w'_ hS_ => ex_get y_sT27 g 832 v' cs3 hS_ MK4.out.cell _ rfl rfl) rfl rfl ?_
 intro ts_ ht_; simp only [sI, sZ, sS] at ht_; subst ht_
 refine sq_pure (.int .i64 (all.length : Int)) rfl (fun w'_ => ex_mv (.tmp 5) (.inl rfl) _ rfl) rfl rfl ?_
 intro ts_ ht_; simp only [sI, sZ, sS] at ht_; subst ht_
 refine sq_pure (.pointer (some ⟨g, 0, none⟩)) rfl (fun w'_ => ex_mv (.tmp 0) (.inl rfl) _ rfl) rfl rfl ?_
 intro ts_ ht_; simp only [sI, sZ, sS] at ht_; subst ht_
 refine sq_pure (.pointer (some ⟨g, 0, none⟩)) rfl (fun w'_ => by go_simp) rfl rfl ?_
 intro ts_ ht_; simp only [sI, sZ, sS] at ht_; subst ht_
 refine sq_pure (.pointer (some ⟨g, 832, none⟩)) rfl (fun w'_ => ex_field 82 1 (.pointer (some ⟨g, 0, none⟩)) (.pointer (some ⟨g, 832, none⟩)) (y_fa82_1 g) _ rfl rfl) rfl rfl ?_
 intro ts_ ht_; simp only [sI, sZ, sS] at ht_; subst ht_
 refine sq_take (v') MK4.out.blk rfl (fun w'_ hS_ => ex_get y_sT27 g 832 v' cs3 hS_ MK4.out.cell _ rfl rfl) rfl rfl ?_
 intro ts_ ht_; simp only [sI, sZ, sS] at ht_; subst ht_
 refine sq_pure (.int .i64 ((all.length + l.length : Nat) : Int)) rfl (fun w'_ => ex_len y_us27 _ _ _ _ HV'.out _ rfl rfl) rfl rfl ?_
 intro ts_ ht_; simp only [sI, sZ, sS] at ht_; subst ht_
 refine sq_pure (.pointer (some ⟨g, 0, none⟩)) rfl (fun w'_ => ex_mv (.tmp 0) (.inl rfl) _ rfl) rfl rfl ?_
 intro ts_ ht_; simp only [sI, sZ, sS] at ht_; subst ht_
 refine sq_pure (.pointer (some ⟨g, 0, none⟩)) rfl (fun w'_ => by go_simp) rfl rfl ?_
 intro ts_ ht_; simp only [sI, sZ, sS] at ht_; subst ht_
 refine sq_pure (.pointer (some ⟨g, 832, none⟩)) rfl (fun w'_ => ex_field 82 1 (.pointer (some ⟨g, 0, none⟩)) (.pointer (some ⟨g, 832, none⟩)) (y_fa82_1 g) _ rfl rfl) rfl rfl ?_
 intro ts_ ht_; simp only [sI, sZ, sS] at ht_; subst ht_
 refine sq_take (v') MK4.out.blk rfl (fun w'_ hS_ => ex_get y_sT27 g 832 v' cs3 hS_ MK4.out.cell _ rfl rfl) rfl rfl ?_
 intro ts_ ht_; simp only [sI, sZ, sS] at ht_; subst ht_
 refine sq_pure (.int .i64 ((all.length + l.length : Nat) : Int)) rfl (fun w'_ => ex_len y_us27 _ _ _ _ HV'.out _ rfl rfl) rfl rfl ?_
 intro ts_ ht_; simp only [sI, sZ, sS] at ht_; subst ht_
 refine sq_pure (.slice (some ⟨gv, all.length, none⟩) l.length l.length) rfl (fun w'_ => (ex_sl3 y_us27 y_sT3 gv _ cap v' HV'.out all.length (all.length + l.length) (by have := HNE.out; omega) HC.out _ _ _ _ rfl rfl rfl rfl rfl).trans (by rw [Nat.add_sub_cancel_left])) rfl rfl ?_
 intro ts_ ht_; simp only [sI, sZ, sS] at ht_; subst ht_
 refine sq_pure (.agg #[.slice (some ⟨gv, all.length, none⟩) l.length l.length]) rfl (fun w'_ => ex_build (.agg #[.slice (some ⟨gv, all.length, none⟩) l.length l.length]) _ rfl (by intro ww_; simp only [List.map_toArray, List.map_cons, List.map_nil]; kernel_rfl)) rfl rfl ?_
 intro ts_ ht_; simp only [sI, sZ, sS] at ht_; subst ht_
 refine sq_act rfl (fun Q'_ hQ_ => ?_)
 refine ag_store y_aT29 gb 0 #[.slice none 0 0] #[.slice (some ⟨gv, all.length, none⟩) l.length l.length] #[.slice (some ⟨gv, all.length, none⟩) l.length l.length] BK4.out rfl (by simp) (by intro v_ hv_; simp at hv_; subst hv_; rfl) rfl rfl _ _ rfl rfl rfl ?_
 intro w5 ho_ hB_
 have MK5 : Hid (MKx rz w0 w5 g d (N + l.length) P [(.slice (some ⟨gv, all.length, none⟩) l.length l.length, l)] cs3 v' (all ++ l.map (Value.int .i64))) := hid (MKx.far29 MK4.out BK4.out NB.out (by rw [← hgb]; exact SB.out) (fun i x k hi hx hk e => by have := BN3.out i x k hi hx hk; omega) ho_)
 have BK5 := hid hB_
 have OFS := hid ho_
 clear ho_ hB_
 refine act_end ?_
 refine hQ_ _ _ (fun _ => MK5.out.blk) ?_
 clear hQ_ Q'_
 simp only [Act.put]
 refine sq_end ?_
 go_wp2_with fail
 refine bodyPost_ret (v := .agg #[.slice (some ⟨gv, all.length, none⟩) l.length l.length]) (res_c y_aT29 rfl _ gb #[.slice (some ⟨gv, all.length, none⟩) l.length l.length] BK5.out rfl rfl) rfl ?_
 exact ⟨_, cs3, v', _, rfl, MK5.out, HY3.out, by have := SZ4.out; rw [OFS.out.size]; exact this, fun k c hh => (KP4.out k c hh).off OFS.out (fun e => by subst e; have := blk_type (KP4.out k c hh) BK4.out; cases this)⟩
end Go.Proofs.Ytpjocgebnodnoaa
