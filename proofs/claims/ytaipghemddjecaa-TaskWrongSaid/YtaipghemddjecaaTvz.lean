import Derived.Test.YtaipghemddjecaaTuz
namespace Go.Proofs.Ytaipghemddjecaa
open Go.RowKit
open Go.Maps (Keyed)
set_option linter.unusedVariables false
set_option linter.unusedSimpArgs false
set_option maxRecDepth 100000
section
variable {P : Program} {w : World} {ops : Array Oper} {rest : List Oper} {o : Oper} {a : Act} {Q : Exit → Act → World → Prop} {ev : Operand → Value}
theorem in_next (hg : o.guard = none) (it : Operand) (ty : TypeId) (hop : o.op = Op.next it false) (hty : o.type = ty) (p v : Value) (w' : World) (hit : a.eval it = p) (hrun : (Instr.next p false ty).run P w = .ok v w')
    (h : wpList P ops Q rest (a.put o.dst v) w') : wpList P ops Q (o :: rest) a w := by
  refine wpList_plain hg fun K' hK' => ?_
  unfold Oper.wp
  simp [execOp, hop, hit, hty, hrun, Result.andThen]
  exact hK' _ _ h
theorem in_entry (hg : o.guard = none) (it : Operand) (hop : o.op = Op.entry it) (p v : Value) (hit : a.eval it = p) (hrun : (Instr.entry p).run P w = .ok v w)
    (h : wpList P ops Q rest (a.put o.dst v) w) : wpList P ops Q (o :: rest) a w := by
  refine wpList_plain hg fun K' hK' => ?_
  unfold Oper.wp
  simp [execOp, hop, hit, hrun, Result.andThen]
  exact hK' _ _ h
theorem ex_look (t : TypeId) (m x : Operand) (ho : o.op = .lookup t m x false) (mv kv v : Value) (hm : ev m = mv) (hx : ev x = kv) (hr : (Instr.lookup t mv kv false).run P w = .ok v w) : (execOp ev o).run P w = .ok (.value v) w := by
  unfold execOp
  simp [ho, hm, hx, hr, Result.andThen]
end
theorem tk_fa2 (g : Nat) (w : World) : (Instr.fieldAt 40 (.pointer (some ⟨g, 0, none⟩)) 2).run Try.prog w = .ok (.pointer (some ⟨g, 2, none⟩)) w := by kernel_rfl
theorem tk_fa5 (g : Nat) (w : World) : (Instr.fieldAt 40 (.pointer (some ⟨g, 0, none⟩)) 5).run Try.prog w = .ok (.pointer (some ⟨g, 79, none⟩)) w := by kernel_rfl
theorem tk_s37 : ScT Try.prog 37 := ⟨fun w => by kernel_rfl, fun w => by kernel_rfl⟩
theorem tk_s32 : ScT Try.prog 32 := ⟨fun w => by kernel_rfl, fun w => by kernel_rfl⟩
theorem tk_s9 : ScT Try.prog 9 := ⟨fun w => by kernel_rfl, fun w => by kernel_rfl⟩
theorem tk_us : Try.prog.underlying 54 = some (.slice 9) := by kernel_rfl
theorem tk_eT_info : (Try.prog.info? 9).map (fun i => (i.zero, i.size, i.bytes)) = some (some (.string ⟨#[]⟩), 1, 16) := by kernel_rfl
theorem tk_eT : ElemT Try.prog 54 9 16 := ⟨by kernel_rfl, by
  obtain ⟨i, h1, h2, h3, h4⟩ := info_parts tk_eT_info
  exact ⟨i, _, h1, h2, h3, h4, rfl⟩⟩
theorem dyn_fn : ∀ i : Nat, ∃ fn, Try.prog.funcs[optF i]? = some fn ∧ (fn.name == "runtime.NumGoroutine") = false ∧ fn.body.isNone = false
  | 0 => ⟨_, Try.func18, by kernel_rfl, by kernel_rfl⟩
  | 1 => ⟨_, Try.func20, by kernel_rfl, by kernel_rfl⟩
  | 2 => ⟨_, Try.func15, by kernel_rfl, by kernel_rfl⟩
  | 3 => ⟨_, Try.func23, by kernel_rfl, by kernel_rfl⟩
  | 4 => ⟨_, Try.func12, by kernel_rfl, by kernel_rfl⟩
  | 5 => ⟨_, Try.func13, by kernel_rfl, by kernel_rfl⟩
  | n + 6 => ⟨_, Try.func11, by kernel_rfl, by kernel_rfl⟩
theorem RB.move {w w' : World} {g : Nat} {s : TS} (h : RB w g s) (hb : w'.heap[g]? = w.heap[g]?) : RB w' g s := ⟨h.len, hb.trans h.blk⟩
theorem enc_names (L : List Nat) : (L.map keyB).map encStr = (L.map optN).map Value.string := by
  simp only [List.map_map]
  refine List.map_congr_left fun i _ => ?_
  simp [keyB, encStr]
theorem names_nt {L : List Nat} {n : Nat} (h : n < L.length) : nt (L.map optN) n ByteArray.empty = optN (L.getD n 0) := by
  unfold nt
  rw [List.getD_eq_getElem?_getD, List.getD_eq_getElem?_getD, List.getElem?_map, List.getElem?_eq_getElem h]; rfl
theorem getD_mem {L : List Nat} {n : Nat} (h : n < L.length) : L.getD n 0 ∈ L := by
  rw [List.getD_eq_getElem?_getD, List.getElem?_eq_getElem h]; exact List.getElem_mem h
set_option maxHeartbeats 40000000 in
theorem option_calls (s : TS) (L : List Nat) {g b : Nat} {w : World} (hB : RB w g s) (hO : OMap w b L) (hL : Opts L) (hne : L ≠ []) (hs : s.ok) (he : s.e = 0) (hle : s.le = .map (some b)) :
    Calls Try.prog 28 #[.pointer (some ⟨g, 0, none⟩)] w fun e w' => e = .returned (.tuple #[]) ∧ RB w' g (optionR L s).1 ∧ OMap w' b (optionR L s).2 ∧ Tw g b w.heap.size w w' := by
 have BK := hid hB
 have OM := hid hO
 have HL := hid (Tw.refl g b w.heap.size w)
 have HS := hid hs
 have HE := hid he
 have HLE := hid hle
 have HOP := hid hL
 have KB := hid (OMap.ne hO hB.blk)
 have GLT := hid hB.blk.lt
 have BLT := hid hO.lt
 have hpos : 0 < L.length := List.length_pos_iff.2 hne
 have POS := hid hpos
 have NE := hid hne
 obtain ⟨x, hx⟩ : ∃ x, oneR (L.map optN) s = x := ⟨_, rfl⟩
 have HX := hid hx
 have XOK := hid (show x.2.ok from by rw [← hx]; exact one_ok hs (names_apart hL hne))
 have XLE := hid (show x.2.le = .map (some b) from by rw [← hx, oneR_le]; exact hle)
 have XN := hid (show x.2.e = 0 → 0 ≤ x.1 ∧ x.1 < (L.length : Int) from fun h0 => by
   have b1 := oneA_bd (t := s.t) hs.a0 hs.a1 (names_apart hL hne)
   rw [← hx] at h0 ⊢
   unfold oneR at h0 ⊢
   rw [if_pos he] at h0 ⊢
   have := b1.2.2.2.1 h0
   rw [List.length_map] at this
   exact this.2)
 have CC := hid (show ∀ (w2 : World) (v : Value), RB w2 g s → SlT w2 9 v ((L.map optN).map Value.string) → Calls Try.prog 14 #[.pointer (some ⟨g, 0, none⟩), v] w2 fun e w' => e = .returned (.int .i64 x.1) ∧ RB w' g x.2 ∧ Bex g w2.heap.size w2 w' from fun w2 v hB2 hv => by
   rw [← hx]
   exact oneOf_calls s (L.map optN) v hB2 hs hv (by rw [List.length_map]; have := hL.len; omega) names_size)
 clear hB hO hs he hle hL hpos hne hx
 have LEN := hid (show (L.length : Int) ≠ 0 from by have := POS.out; omega)
 go_enter Try.func28, Try.ntmps28
 go_wp2_with (first
  | ((with_reducible refine gate_d (N := 7) rfl ?_); refine ag_fix (.pointer (some ⟨g, 79, none⟩)) (ex_field 40 5 (.pointer (some ⟨g, 0, none⟩)) (.pointer (some ⟨g, 79, none⟩)) (tk_fa5 g) _ rfl rfl) rfl ?_)
  | ((with_reducible refine gate_d (N := 8) rfl ?_); refine ag_fix (.map (some b)) (ex_get tk_s37 g 79 (.map (some b)) (TC s) BK.out.blk ((yv_cell (a := 3) (n := 64) rfl BK.out.len 12 79 (by decide)).trans (by show some s.le = _; rw [HLE.out])) _ rfl rfl) rfl ?_)
  | ((with_reducible refine gate_d (N := 9) rfl ?_); refine wpList_range_own (H := Unit) _ rfl _ 37 rfl 9 42 (Maps.string_keyed tk9) tm37 fnElem b 7 (mapD L) rfl OM.out ?_; intro w1 hr_ hg_ hs_; have RG := hid hr_; have BK1 := hid (BK.out.move (hg_.block g GLT.out (by simp))); have HL1 := hid (HL.out.trans (Tw.of_grown (B := w.heap.size) hg_ (Nat.le_refl _) (fun k h => by cases h)) (Nat.le_refl _)); have SZ := hid (show w.heap.size + 1 ≤ w1.heap.size from Nat.le_of_eq hs_.symm); clear hr_ hg_ hs_))
 (try simp only [Act.put, sI, sZ, sS])
 go_loopg [2] (Maps.size (mapD L)) (fun kq v2 w' => ∃ (u2 : Value) (ss : List (List UInt8)) (left : Lit → Bool), u2 = v2 ∧ Hid (Own w' (w.heap.size + 1) 9 u2 (ss.map encStr)) ∧ Hid (w'.ranges Try.prog 9 fnElem b w.heap.size 7 (mapD L) left kq) ∧ Hid (Collected (mapD L) left ss) ∧ Hid (ss.length + kq ≤ 7) ∧ Hid (RB w' g s) ∧ Hid (Tw g b w.heap.size w w') ∧ Hid (w.heap.size + 1 ≤ w'.heap.size))
 case atStart => exact ⟨.slice none 0 0, [], Maps.has (mapD L), rfl, hid (Own.nil _ _ _), RG, hid (Collected.start _), hid (by rw [map_size]; have := HOP.out.len; simpa using this), BK1, HL1, SZ⟩
 case round =>
  clear RG BK1 HL1 SZ
  obtain ⟨u2, ss, left, rfl, SW, RG, CO, LE, BK1, HL1, SZ⟩ := hrel
  rcases RG.out.next (Maps.string_keyed tk9) 0 with ⟨h0_, hl_, hrun_⟩ | ⟨key_, v_, kl_, y_, w2, cnt2, hkey_, hlk_, hv_, hat_, hrun_, hrg_, hlt_, hgr_, hsz_, hen_⟩
  ·
   have RUN := hid hrun_
   have perm := CO.out.perm RG.out.owns (Maps.string_keyed tk9) tk9 hl_
   rw [map_keys] at perm
   have SRT := hid (show ss.mergeSort leB = L.map keyB from by rw [mergeSort_of_perm perm]; exact List.mergeSort_of_pairwise (names_rise HOP.out))
   have SNE := hid (show ss ≠ [] from fun h => by rw [h] at perm; have := perm.length_eq; have := POS.out; simp at *; omega)
   have SLE := hid (show ss.length ≤ 7 from by have := LE.out; omega)
   have OMr := hid (show OMap wr b L from RG.out.owns)
   clear hrun_ perm h0_ hl_
   by_cases c0 : x.2.e = 0
   ·
    have c0a : (x.2.e != 0) = false := by rw [c0]; rfl
    have c0b : (((L.length : Int)) == 0) = false := beq_eq_false_iff_ne.mpr LEN.out
    have C0 := hid c0
    clear c0
    have k1 := True.intro
    have k2 := True.intro
    go_wp2_with (first
     | ((with_reducible refine gate_d (N := 10) rfl ?_); refine in_next rfl _ 0 rfl rfl (.pointer (some ⟨w.heap.size, 0, none⟩)) _ _ rfl RUN.out ?_)
     | (go_at_call 43; clear k1; refine (sort_own SW.out SNE.out SLE.out).mono ?_; rintro e_ w3 ⟨rfl, ho_, hb_⟩; rw [SRT.out, enc_names] at ho_; have SW3 := hid ho_; have BK3 := hid (BK1.out.move (hb_.block g (by have := GLT.out; omega))); have OM3 := hid (OMr.out.move (hb_.block b (by have := BLT.out; omega))); have HL3 := hid (HL1.out.trans (Tw.of_below (hb_.mono (show w.heap.size ≤ w.heap.size + 1 by omega)) g b) (Nat.le_refl _)); have SZ3 := hid (Nat.le_trans SZ.out hb_.size); clear ho_ hb_)
     | ((with_reducible refine gate_d (N := 21) rfl ?_); obtain ⟨A_, c_, hv_⟩ := SW3.out.shape; rw [List.length_map, List.length_map] at hv_; refine ag_fix (.int .i64 (L.length : Int)) (ex_len tk_us _ _ _ _ hv_ _ rfl rfl) rfl ?_; clear hv_)
     | (go_at_call 14; clear k2; refine (CC.out _ _ BK3.out SW3.out.slT).mono ?_; rintro e_ w4 ⟨rfl, hB_, hx_⟩; have SW4 := hid (SW3.out.bex hx_ (Nat.le_refl _) BK3.out.blk (by decide)); have OM4 := hid (OM3.out.move (hx_.block b OM3.out.lt KB.out)); have HL4 := hid (HL3.out.trans (Tw.of_bex hx_ b) HL3.out.size); have SZ4 := hid (Nat.le_trans SZ3.out hx_.size); have BK4 := hid hB_; clear hB_ hx_)
     | ((with_reducible refine gate_d (N := 31) rfl ?_); refine ag_fix (.pointer (some ⟨g, 2, none⟩)) (ex_field 40 2 (.pointer (some ⟨g, 0, none⟩)) (.pointer (some ⟨g, 2, none⟩)) (tk_fa2 g) _ rfl rfl) rfl ?_)
     | ((with_reducible refine gate_d (N := 32) rfl ?_); refine ag_fix (.int .i64 x.2.e) (ex_get tk_s32 g 2 (.int .i64 x.2.e) (TC x.2) BK4.out.blk ((yv_pre (a := 3) rfl 2 (by decide)).trans rfl) _ rfl rfl) rfl ?_))
    (try simp only [Act.put, sI, sZ, sS])
    clear c0a c0b BK1 BK3 SW SW3 OMr OM3 HL1 HL3 SZ SZ3 RG RUN CO LE
    obtain ⟨xn0, xn1⟩ := XN.out C0.out
    have XN0 := hid xn0
    have XN1 := hid (show x.1 < ((L.map optN).length : Int) from by rw [List.length_map]; exact xn1)
    have XNL := hid (show x.1.toNat < L.length from by omega)
    clear xn0 xn1
    obtain ⟨ad, cp, hv_, _⟩ := Sl.get (l := L.map optN) (f := Value.string) SW4.out.sl ByteArray.empty XN0.out XN1.out
    have HV := hid hv_
    clear hv_
    obtain ⟨fn_, hf1_, hf2_, hf3_⟩ := dyn_fn (L.getD x.1.toNat 0)
    have HF1 := hid hf1_
    have HF2 := hid hf2_
    have HF3 := hid hf3_
    clear hf1_ hf2_ hf3_
    refine sq_region (fun w'_ => RB w'_ g x.2 ∧ OMap w'_ b L ∧ Own w'_ (w.heap.size + 1) 9 u2 ((L.map optN).map Value.string)) [10] [(0, 2), (1, 2), (2, 2), (3, 1), (4, 2), (5, 2), (6, 2), (7, 1), (8, 1), (9, 2), (10, 0)] (by kernel_rfl) (by kernel_rfl) (by kernel_rfl) rfl ?_
    intro w5 hb_
    have BK5 := hid (BK4.out.move (hb_.block g BK4.out.blk.lt))
    have OM5 := hid (OM4.out.move (hb_.block b OM4.out.lt))
    have SW5 := hid (SW4.out.below hb_)
    have HL5 := hid (HL4.out.trans (Tw.of_below hb_ g b) HL4.out.size)
    have SZ5 := hid (Nat.le_trans SZ4.out hb_.size)
    clear hb_ BK4 OM4 SW4 HL4 SZ4
    refine sq_pure (.pointer (some ⟨g, 0, none⟩)) rfl (fun w'_ => ex_mv (.tmp 0) (.inl rfl) _ rfl) rfl rfl ?_
    intro ts_ ht_; simp only [sI, sZ, sS] at ht_; subst ht_
    refine sq_pure (.pointer (some ⟨g, 0, none⟩)) rfl (fun w'_ => by go_simp) rfl rfl ?_
    intro ts_ ht_; simp only [sI, sZ, sS] at ht_; subst ht_
    refine sq_pure (.pointer (some ⟨g, 79, none⟩)) rfl (fun w'_ => ex_field 40 5 (.pointer (some ⟨g, 0, none⟩)) (.pointer (some ⟨g, 79, none⟩)) (tk_fa5 g) _ rfl rfl) rfl rfl ?_
    intro ts_ ht_; simp only [sI, sZ, sS] at ht_; subst ht_
    refine sq_take (.map (some b)) ⟨BK5.out, OM5.out, SW5.out⟩ rfl (fun w'_ hS_ => ex_get tk_s37 g 79 (.map (some b)) (TC x.2) hS_.1.blk ((yv_cell (a := 3) (n := 64) rfl hS_.1.len 12 79 (by decide)).trans (by show some (x.2).le = _; rw [XLE.out])) _ rfl rfl) rfl rfl ?_
    intro ts_ ht_; simp only [sI, sZ, sS] at ht_; subst ht_
    refine sq_pure (u2) rfl (fun w'_ => ex_mv (.tmp 2) (.inl rfl) _ rfl) rfl rfl ?_
    intro ts_ ht_; simp only [sI, sZ, sS] at ht_; subst ht_
    refine sq_pure (.int .i64 x.1) rfl (fun w'_ => ex_mv (.tmp 4) (.inl rfl) _ rfl) rfl rfl ?_
    intro ts_ ht_; simp only [sI, sZ, sS] at ht_; subst ht_
    refine sq_pure (.pointer (some (ad.add x.1.toNat))) rfl (fun w'_ => ex_sat _ _ x.1 _ _ HV.out XN0.out XN1.out tk_us tk_s9 _ _ rfl rfl rfl) rfl rfl ?_
    intro ts_ ht_; simp only [sI, sZ, sS] at ht_; subst ht_
    refine sq_take (.string (optN (L.getD x.1.toNat 0))) ⟨BK5.out, OM5.out, SW5.out⟩ rfl (fun w'_ hS_ => ex_scell tk_s9 _ _ ((Sl.at_ (l := L.map optN) (f := Value.string) hS_.2.2.sl ByteArray.empty HV.out (i := x.1) XN0.out XN1.out).trans (by rw [names_nt XNL.out])) _ rfl rfl) rfl rfl ?_
    intro ts_ ht_; simp only [sI, sZ, sS] at ht_; subst ht_
    refine sq_take (.func (.func (optF (L.getD x.1.toNat 0))) #[] #[]) ⟨BK5.out, OM5.out, SW5.out⟩ rfl (fun w'_ hS_ => ex_look 37 _ _ rfl (.map (some b)) (.string (optN (L.getD x.1.toNat 0))) _ rfl rfl (look_fn hS_.2.1 HOP.out (getD_mem XNL.out))) rfl rfl ?_
    intro ts_ ht_; simp only [sI, sZ, sS] at ht_; subst ht_
    refine sq_pure (.pointer (some ⟨g, 0, none⟩)) rfl (fun w'_ => ex_mv (.tmp 0) (.inl rfl) _ rfl) rfl rfl ?_
    intro ts_ ht_; simp only [sI, sZ, sS] at ht_; subst ht_
    refine sq_act rfl (fun Q'_ hQ_ => ?_)
    refine wl_call (optF (L.getD x.1.toNat 0)) #[.pointer (some ⟨g, 0, none⟩)] (ex_dyn HF1.out HF2.out HF3.out _ rfl _ _ _ rfl rfl (by simp only [List.map_toArray, List.map_cons, List.map_nil]; rfl)) rfl ((opt_calls (L.getD x.1.toNat 0) x.2 BK5.out XOK.out).mono ?_)
    rintro e_ w6 ⟨rfl, hB_, hx_⟩
    have SW6 := hid (SW5.out.bex hx_ (Nat.le_refl _) BK5.out.blk (by decide))
    have OM6 := hid (OM5.out.move (hx_.block b OM5.out.lt KB.out))
    have HL6 := hid (HL5.out.trans (Tw.of_bex hx_ b) HL5.out.size)
    have BK6 := hid hB_
    clear hB_ hx_
    refine ⟨_, rfl, ?_⟩
    refine hQ_ _ _ (fun h_ => absurd h_ (by decide)) ?_
    clear hQ_ Q'_
    change Sq _ _ _ _ _ _ (Act.put _ (some 44) _) _
    simp only [Act.put, sI, sZ, sS]
    clear BK5 SW5 HL5 SZ5 OM5 HF1 HF2 HF3
    refine sq_end ?_
    go_wp2_with fail
    (try simp only [Act.put, sI, sZ, sS])
    refine sq_region (fun w'_ => RB w'_ g (optR (L.getD x.1.toNat 0) x.2) ∧ OMap w'_ b L ∧ Own w'_ (w.heap.size + 1) 9 u2 ((L.map optN).map Value.string)) [8] [(0, 2), (1, 2), (2, 2), (3, 1), (4, 2), (5, 2), (6, 2), (7, 1), (8, 0)] (by kernel_rfl) (by kernel_rfl) (by kernel_rfl) rfl ?_
    intro w7 hb_
    have BK7 := hid (BK6.out.move (hb_.block g BK6.out.blk.lt))
    have OM7 := hid (OM6.out.move (hb_.block b OM6.out.lt))
    have SW7 := hid (SW6.out.below hb_)
    have HL7 := hid (HL6.out.trans (Tw.of_below hb_ g b) HL6.out.size)
    clear hb_ BK6 OM6 SW6 HL6
    refine sq_pure (.pointer (some ⟨g, 0, none⟩)) rfl (fun w'_ => ex_mv (.tmp 0) (.inl rfl) _ rfl) rfl rfl ?_
    intro ts_ ht_; simp only [sI, sZ, sS] at ht_; subst ht_
    refine sq_pure (.pointer (some ⟨g, 0, none⟩)) rfl (fun w'_ => by go_simp) rfl rfl ?_
    intro ts_ ht_; simp only [sI, sZ, sS] at ht_; subst ht_
    refine sq_pure (.pointer (some ⟨g, 79, none⟩)) rfl (fun w'_ => ex_field 40 5 (.pointer (some ⟨g, 0, none⟩)) (.pointer (some ⟨g, 79, none⟩)) (tk_fa5 g) _ rfl rfl) rfl rfl ?_
    intro ts_ ht_; simp only [sI, sZ, sS] at ht_; subst ht_
    refine sq_take (.map (some b)) ⟨BK7.out, OM7.out, SW7.out⟩ rfl (fun w'_ hS_ => ex_get tk_s37 g 79 (.map (some b)) (TC (optR (L.getD x.1.toNat 0) x.2)) hS_.1.blk ((yv_cell (a := 3) (n := 64) rfl hS_.1.len 12 79 (by decide)).trans (by show some ((optR (L.getD x.1.toNat 0) x.2)).le = _; rw [optR_le, XLE.out])) _ rfl rfl) rfl rfl ?_
    intro ts_ ht_; simp only [sI, sZ, sS] at ht_; subst ht_
    refine sq_pure (u2) rfl (fun w'_ => ex_mv (.tmp 2) (.inl rfl) _ rfl) rfl rfl ?_
    intro ts_ ht_; simp only [sI, sZ, sS] at ht_; subst ht_
    refine sq_pure (.int .i64 x.1) rfl (fun w'_ => ex_mv (.tmp 4) (.inl rfl) _ rfl) rfl rfl ?_
    intro ts_ ht_; simp only [sI, sZ, sS] at ht_; subst ht_
    refine sq_pure (.pointer (some (ad.add x.1.toNat))) rfl (fun w'_ => ex_sat _ _ x.1 _ _ HV.out XN0.out XN1.out tk_us tk_s9 _ _ rfl rfl rfl) rfl rfl ?_
    intro ts_ ht_; simp only [sI, sZ, sS] at ht_; subst ht_
    refine sq_take (.string (optN (L.getD x.1.toNat 0))) ⟨BK7.out, OM7.out, SW7.out⟩ rfl (fun w'_ hS_ => ex_scell tk_s9 _ _ ((Sl.at_ (l := L.map optN) (f := Value.string) hS_.2.2.sl ByteArray.empty HV.out (i := x.1) XN0.out XN1.out).trans (by rw [names_nt XNL.out])) _ rfl rfl) rfl rfl ?_
    intro ts_ ht_; simp only [sI, sZ, sS] at ht_; subst ht_
    refine sq_act rfl (fun Q'_ hQ_ => ?_)
    refine wpList_delete_own _ rfl _ _ 37 9 rfl 42 (Maps.string_keyed tk9) tm37 fnElem b 7 (mapD L) rfl OM7.out (.string (optN (L.getD x.1.toNat 0))) (.string (keyB (L.getD x.1.toNat 0))) rfl (key9 _) ?_
    intro w8 ho_ ht_
    rw [map_del HOP.out XNL.out] at ho_
    have OM8 := hid (show OMap w8 b (L.eraseIdx x.1.toNat) from ho_)
    have BK8 := hid (BK7.out.move (ht_.grown.block g BK7.out.blk.lt (fun e => by injection e with e; exact KB.out e.symm)))
    have HL8 := hid (HL7.out.trans (Tw.of_grown (g := g) (b := b) (B := w7.heap.size) ht_.grown (Nat.le_refl _) (fun k h => by injection h with h; exact .inl h.symm)) HL7.out.size)
    clear ho_ ht_ BK7 OM7 SW7 HL7
    refine act_end ?_
    refine hQ_ _ _ (fun h_ => absurd h_ (by decide)) ?_
    clear hQ_ Q'_
    simp only [Act.put]
    refine sq_end ?_
    have YOK := hid (show (optR (L.getD x.1.toNat 0) x.2).ok from (optR_good _).ok XOK.out)
    have k3 := True.intro
    go_wp2_with (first
     | (go_at_call 16; clear k3; refine (word_calls _ nlB BK8.out YOK.out (by decide)).mono ?_; rintro e_ w9 ⟨rfl, hB_, hx_⟩; have OM9 := hid (OM8.out.move (hx_.block b OM8.out.lt KB.out)); have HL9 := hid (HL8.out.trans (Tw.of_bex hx_ b) HL8.out.size); have BK9 := hid hB_; clear hB_ hx_))
    (first | go_end0 | refine bodyPost_ret (results_none rfl _ _ _) rfl ?_)
    have RES : optionR L s = (wordR nlB (optR (L.getD x.1.toNat 0) x.2), L.eraseIdx x.1.toNat) := by unfold optionR; rw [HX.out, if_pos C0.out]
    rw [RES]
    exact ⟨rfl, BK9.out, OM9.out, HL9.out⟩
   ·
    have c0a : (x.2.e != 0) = true := bne_iff_ne.mpr c0
    have c0b : (((L.length : Int)) == 0) = false := beq_eq_false_iff_ne.mpr LEN.out
    have C0 := hid c0
    clear c0
    have k1 := True.intro
    have k2 := True.intro
    go_wp2_with (first
     | ((with_reducible refine gate_d (N := 10) rfl ?_); refine in_next rfl _ 0 rfl rfl (.pointer (some ⟨w.heap.size, 0, none⟩)) _ _ rfl RUN.out ?_)
     | (go_at_call 43; clear k1; refine (sort_own SW.out SNE.out SLE.out).mono ?_; rintro e_ w3 ⟨rfl, ho_, hb_⟩; rw [SRT.out, enc_names] at ho_; have SW3 := hid ho_; have BK3 := hid (BK1.out.move (hb_.block g (by have := GLT.out; omega))); have OM3 := hid (OMr.out.move (hb_.block b (by have := BLT.out; omega))); have HL3 := hid (HL1.out.trans (Tw.of_below (hb_.mono (show w.heap.size ≤ w.heap.size + 1 by omega)) g b) (Nat.le_refl _)); have SZ3 := hid (Nat.le_trans SZ.out hb_.size); clear ho_ hb_)
     | ((with_reducible refine gate_d (N := 21) rfl ?_); obtain ⟨A_, c_, hv_⟩ := SW3.out.shape; rw [List.length_map, List.length_map] at hv_; refine ag_fix (.int .i64 (L.length : Int)) (ex_len tk_us _ _ _ _ hv_ _ rfl rfl) rfl ?_; clear hv_)
     | (go_at_call 14; clear k2; refine (CC.out _ _ BK3.out SW3.out.slT).mono ?_; rintro e_ w4 ⟨rfl, hB_, hx_⟩; have OM4 := hid (OM3.out.move (hx_.block b OM3.out.lt KB.out)); have HL4 := hid (HL3.out.trans (Tw.of_bex hx_ b) HL3.out.size); have BK4 := hid hB_; clear hB_ hx_)
     | ((with_reducible refine gate_d (N := 31) rfl ?_); refine ag_fix (.pointer (some ⟨g, 2, none⟩)) (ex_field 40 2 (.pointer (some ⟨g, 0, none⟩)) (.pointer (some ⟨g, 2, none⟩)) (tk_fa2 g) _ rfl rfl) rfl ?_)
     | ((with_reducible refine gate_d (N := 32) rfl ?_); refine ag_fix (.int .i64 x.2.e) (ex_get tk_s32 g 2 (.int .i64 x.2.e) (TC x.2) BK4.out.blk ((yv_pre (a := 3) rfl 2 (by decide)).trans rfl) _ rfl rfl) rfl ?_))
    (first | go_end0 | refine bodyPost_ret (results_none rfl _ _ _) rfl ?_)
    have RES : optionR L s = (x.2, L) := by unfold optionR; rw [HX.out, if_neg C0.out]
    rw [RES]
    exact ⟨rfl, BK4.out, OM4.out, HL4.out⟩
  ·
   obtain ⟨xk, rfl, rfl, _⟩ := Maps.keyOf_str tk9 hkey_
   have RUN := hid hrun_
   have ENT := hid hen_
   have CO2 := hid (CO.out.step hlk_ hat_)
   have CNT := hid hlt_
   have RG2 := hid hrg_
   have BK2 := hid (BK1.out.move (hgr_.block g (by have := GLT.out; have := SZ.out; omega) (fun e => by injection e with e; have := GLT.out; omega)))
   have HL2 := hid (HL1.out.trans (Tw.of_grown (g := g) (b := b) (B := w.heap.size) hgr_ (by have := SZ.out; omega) (fun k h => by injection h with h; exact .inr (by omega))) (Nat.le_refl _))
   have SW2 := hid (SW.out.move (w' := w2) (fun g' cs hg' hh => (hgr_.block g' hh.lt (fun e => by injection e with e; omega)).trans hh))
   have SZ2 := hid (show w.heap.size + 1 ≤ w2.heap.size from by rw [hsz_]; exact SZ.out)
   clear hrun_ hen_ hlk_ hat_ hlt_ hrg_ hgr_ hsz_ hv_ hkey_ SW BK1 HL1 SZ RG CO
   have k1 := True.intro
   go_wp2_with (first
    | ((with_reducible refine gate_d (N := 10) rfl ?_); refine in_next rfl _ 0 rfl rfl (.pointer (some ⟨w.heap.size, 0, none⟩)) _ _ rfl RUN.out ?_)
    | ((with_reducible refine gate_d (N := 12) rfl ?_); refine in_entry rfl _ rfl (.pointer (some ⟨w.heap.size, 0, none⟩)) _ rfl ENT.out ?_)
    | ((with_reducible refine gate_d (N := 16) rfl ?_); obtain ⟨gl, hgl⟩ : ∃ g_, w2.heap.size = g_ := ⟨_, rfl⟩; refine ag_lit tk_s9 (encStr xk) gl hgl rfl _ rfl rfl (fun w_ => by kernel_rfl) ?_; intro w3 hb_ hB_ hs_; have GLl := hid (show w.heap.size + 1 ≤ gl from by have := SZ2.out; omega); have BK3 := hid (BK2.out.move (hb_.block g (by have := GLT.out; have := GLl.out; omega))); have HL3 := hid (HL2.out.trans (Tw.of_below (hb_.mono (show w.heap.size ≤ gl by have := GLl.out; omega)) g b) (Nat.le_refl _)); have SW3 := hid (SW2.out.below (by rw [hgl]; exact hb_)); have RG3 := hid (ranges_move RG2.out (hb_.block b (by have := BLT.out; have := GLl.out; omega)) (hb_.block _ (by have := GLl.out; omega))); have SZ3 := hid (show w.heap.size + 1 ≤ w3.heap.size from by rw [hs_]; have := GLl.out; omega); have BKl := hid hB_; clear hb_ hB_ hs_ hgl)
    | (at_builtin; clear k1; refine app_one tk_eT (w.heap.size + 1) _ (ss.map encStr) (encStr xk) gl 1 SW3.out BKl.out rfl (by rw [List.length_map]; have := LE.out; omega) (by rw [List.length_map]; have := LE.out; unfold maxLen; omega) SZ3.out rfl _ _ rfl rfl rfl ?_; intro u4 w4 ho_ hb_ hk_ hi_; have SW4 := hid (show Own w4 (w.heap.size + 1) 9 u4 ((ss ++ [xk]).map encStr) from by rw [List.map_append]; exact ho_); have BK4 := hid (BK3.out.move (hb_.block g (by have := GLT.out; omega))); have HL4 := hid (HL3.out.trans (Tw.of_below (hb_.mono (show w.heap.size ≤ w.heap.size + 1 by omega)) g b) (Nat.le_refl _)); have RG4 := hid (ranges_move RG3.out (hb_.block b (by have := BLT.out; omega)) (hb_.block _ (by omega))); have SZ4 := hid (Nat.le_trans SZ3.out hb_.size); clear ho_ hb_ hk_ hi_))
   go_roundg cnt2
   case measure => exact CNT.out
   case rel => exact ⟨u4, ss ++ [xk], _, rfl, SW4, RG4, CO2, hid (by have h1_ := LE.out; have h2_ := CNT.out; simp only [List.length_append, List.length_cons, List.length_nil]; omega), BK4, HL4, SZ4⟩
end Go.Proofs.Ytaipghemddjecaa
