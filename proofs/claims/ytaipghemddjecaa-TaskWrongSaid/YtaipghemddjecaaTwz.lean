import Derived.Test.YtaipghemddjecaaTvz
namespace Go.Proofs.Ytaipghemddjecaa
open Go.RowKit
open Go.Maps (Keyed)
set_option linter.unusedVariables false
set_option linter.unusedSimpArgs false
set_option maxRecDepth 100000
def endB : ByteArray := ⟨#[101, 110, 100, 10]⟩
def opB : ByteArray := ⟨#[111, 112, 116, 105, 111, 110, 32]⟩
def restW (L : List Nat) : List ByteArray := if L = [] then [endB] else [endB, opB]
def restF : Nat → List Nat → TS → TS × List Nat
  | 0, L, s => (s, L)
  | d + 1, L, s => if s.e = 0 then (if (oneR (restW L) s).1 = 0 then ((oneR (restW L) s).2, L) else restF d (optionR L (oneR (restW L) s).2).2 (optionR L (oneR (restW L) s).2).1) else (s, L)
def restR (L : List Nat) (s : TS) : TS := if (restF 9 L s).1.e = 0 ∧ (restF 9 L s).1.a < (restF 9 L s).1.t.size then { (restF 9 L s).1 with e := 2 } else (restF 9 L s).1
theorem restF_off {s : TS} (h : s.e ≠ 0) (L : List Nat) : ∀ d, restF d L s = (s, L)
  | 0 => rfl
  | d + 1 => by unfold restF; rw [if_neg h]
theorem restW_apart (L : List Nat) : apartB (restW L) = true := by unfold restW; split <;> decide +kernel
theorem restW_len (L : List Nat) : (restW L).length ≤ 2 := by unfold restW; split <;> decide
theorem restW_size (L : List Nat) : ∀ i, i < (restW L).length → (wd (restW L) i).size ≤ 1000 := by unfold restW; split <;> decide
theorem one_zero {ws : List ByteArray} (hw : apartB ws = true) {s : TS} (hs : s.ok) (he : s.e = 0) (h : (oneR ws s).2.e ≠ 0) : (oneR ws s).1 = 0 := by
  unfold oneR at h ⊢
  rw [if_pos he] at h ⊢
  rcases oneA_cases hs.a0 hs.a1 hw with ⟨k, hk, hh, hz, e⟩ | ⟨hno, e⟩
  · exact absurd (show (oneZ s.t s.a ws).2.2 = 0 by rw [e]) h
  · show (oneZ s.t s.a ws).2.1 = 0
    rw [e]
theorem one_lt {ws : List ByteArray} (hw : apartB ws = true) {s : TS} (hs : s.ok) (he : s.e = 0) (h : (oneR ws s).2.e = 0) : 0 ≤ (oneR ws s).1 ∧ (oneR ws s).1 < (ws.length : Int) := by
  unfold oneR at h ⊢
  rw [if_pos he] at h ⊢
  exact ((oneA_bd hs.a0 hs.a1 hw).2.2.2.1 h).2
theorem rest_none {s : TS} (hs : s.ok) (he : s.e = 0) : (oneR (restW []) s).1 = 0 := by
  by_cases h : (oneR (restW []) s).2.e = 0
  · have := one_lt (restW_apart []) hs he h
    have h2 : (restW []).length = 1 := rfl
    omega
  · exact one_zero (restW_apart []) hs he h
theorem optionR_ok {L : List Nat} {s : TS} (hL : Opts L) (hne : L ≠ []) (hs : s.ok) : (optionR L s).1.ok := by
  have h1 := one_ok hs (names_apart hL hne)
  unfold optionR
  split
  · exact word_ok ((optR_good _).ok h1) (by decide)
  · exact h1
theorem optionR_le (L : List Nat) (s : TS) : (optionR L s).1.le = s.le := by
  unfold optionR
  split
  · exact (wordR_le _ _).trans ((optR_le _ _).trans (oneR_le _ _))
  · exact oneR_le _ _
theorem optionR_opts {L : List Nat} (s : TS) (hL : Opts L) : Opts (optionR L s).2 := by
  unfold optionR
  split
  · exact hL.erase _
  · exact hL
theorem optionR_len {L : List Nat} {s : TS} (hL : Opts L) (hne : L ≠ []) (hs : s.ok) (he : s.e = 0) (h : (optionR L s).1.e = 0) : (optionR L s).2.length + 1 = L.length := by
  unfold optionR at h ⊢
  split
  · rename_i c
    have := one_lt (names_apart hL hne) hs he c
    rw [List.length_map] at this
    rw [List.length_eraseIdx, if_pos (by omega)]
    omega
  · rename_i c
    rw [if_neg c] at h
    exact absurd h c
theorem ex_mlen {w : World} {o : Oper} {ev : Operand → Value} {b : Nat} {L : List Nat} (h : OMap w b L) (x : Operand) (ho : o.op = .call { callee := .builtin .len, args := #[x], argTypes := #[37] }) (hx : ev x = .map (some b)) :
    (execOp ev o).run Try.prog w = .ok (.value (.int .i64 (L.length : Int))) w := by
  have := World.ownsMap.len h tm37 o.type
  rw [map_size] at this
  unfold execOp
  simp [ho, hx, resolve, invoke, builtin, this, Result.andThen]
theorem tk_fa0 (g : Nat) (w : World) : (Instr.fieldAt 40 (.pointer (some ⟨g, 0, none⟩)) 0).run Try.prog w = .ok (.pointer (some ⟨g, 0, none⟩)) w := by kernel_rfl
theorem tk_fa1 (g : Nat) (w : World) : (Instr.fieldAt 40 (.pointer (some ⟨g, 0, none⟩)) 1).run Try.prog w = .ok (.pointer (some ⟨g, 1, none⟩)) w := by kernel_rfl
theorem tk_s3 : ScT Try.prog 3 := ⟨fun w => by kernel_rfl, fun w => by kernel_rfl⟩
abbrev endsV : Array Value := #[.string (⟨#[101, 110, 100, 10]⟩ : ByteArray), .string (⟨#[111, 112, 116, 105, 111, 110, 32]⟩ : ByteArray)]
theorem ends_one {w : World} {gl : Nat} (h : Blk w gl 9 endsV) : SlT w 9 (.slice (some ⟨gl, 0, none⟩) 1 2) ((restW []).map Value.string) :=
  .inr ⟨gl, 0, 2, endsV, rfl, h, by decide, by unfold maxLen; decide, by decide, rfl⟩
theorem ends_two {w : World} {gl : Nat} {L : List Nat} (hL : L ≠ []) (h : Blk w gl 9 endsV) : SlT w 9 (.slice (some ⟨gl, 0, none⟩) 2 2) ((restW L).map Value.string) := by
  unfold restW
  rw [if_neg hL]
  exact .inr ⟨gl, 0, 2, endsV, rfl, h, by decide, by unfold maxLen; decide, by decide, rfl⟩
set_option maxHeartbeats 40000000 in
theorem rest_calls (s0 : TS) (L0 : List Nat) {g b : Nat} {w : World} (hB : RB w g s0) (hO : OMap w b L0) (hL : Opts L0) (hs : s0.ok) (hle : s0.le = .map (some b)) :
    Calls Try.prog 9 #[.pointer (some ⟨g, 0, none⟩)] w fun e w' => e = .returned (.tuple #[]) ∧ RB w' g (restR L0 s0) ∧ Tw g b w.heap.size w w' := by
 have BK := hid hB
 have OM := hid hO
 have HL := hid (Tw.refl g b w.heap.size w)
 have HS := hid hs
 have HLE := hid hle
 have HOP := hid hL
 have KB := hid (OMap.ne hO hB.blk)
 have GLT := hid hB.blk.lt
 have BLT := hid hO.lt
 obtain ⟨R, hR⟩ : ∃ R, restF 9 L0 s0 = R := ⟨_, rfl⟩
 have HR := hid hR
 have HN := hid (show s0.e = 0 → L0.length + 2 ≤ 9 from fun _ => by have := hL.len; omega)
 clear hB hO hs hle hL hR
 go_enter Try.func9, Try.ntmps9
 go_wp2_with fail
 (try simp only [Act.put, sI, sZ, sS])
 go_loopg [2] 9 (fun kq v2 w' => ∃ (u2 : Value) (s : TS) (L : List Nat), u2 = v2 ∧ Hid (restF kq L s = R) ∧ Hid (s.e = 0 → L.length + 2 ≤ kq) ∧ Hid (RB w' g s) ∧ Hid (OMap w' b L) ∧ Hid (Opts L) ∧ Hid s.ok ∧ Hid (s.le = .map (some b)) ∧ Hid (Tw g b w.heap.size w w'))
 case atStart => exact ⟨_, s0, L0, rfl, HR, HN, BK, OM, HOP, HS, HLE, HL⟩
 case round =>
  have HR0 := HR
  clear HN BK OM HOP HS HLE HL HR
  obtain ⟨u2, s, L, rfl, HR, HN, BK, OM, HOP, HS, HLE, HL⟩ := hrel
  by_cases c0 : s.e = 0
  ·
   obtain ⟨k, rfl⟩ : ∃ k, gk = k + 1 := ⟨gk - 1, by have := HN.out c0; omega⟩
   have c0a : (s.e == 0) = true := beq_iff_eq.mpr c0
   have C0 := hid c0
   clear c0
   obtain ⟨x, hx⟩ : ∃ x, oneR (restW L) s = x := ⟨_, rfl⟩
   have HX := hid hx
   have XOK := hid (show x.2.ok from by rw [← hx]; exact one_ok HS.out (restW_apart L))
   have XLE := hid (show x.2.le = .map (some b) from by rw [← hx, oneR_le]; exact HLE.out)
   have HRX := hid (show (if x.1 = 0 then (x.2, L) else restF k (optionR L x.2).2 (optionR L x.2).1) = R from by have := HR.out; unfold restF at this; rw [if_pos C0.out, hx] at this; exact this)
   have XZ := hid (show x.2.e ≠ 0 → x.1 = 0 from fun h => by rw [← hx] at h ⊢; exact one_zero (restW_apart L) HS.out C0.out h)
   have CC := hid (show ∀ (w2 : World) (v : Value), RB w2 g s → SlT w2 9 v ((restW L).map Value.string) → Calls Try.prog 14 #[.pointer (some ⟨g, 0, none⟩), v] w2 fun e w' => e = .returned (.int .i64 x.1) ∧ RB w' g x.2 ∧ Bex g w2.heap.size w2 w' from fun w2 v hB2 hv => by
     rw [← hx]
     exact oneOf_calls s (restW L) v hB2 HS.out hv (by have := restW_len L; omega) (restW_size L))
   clear hx
   by_cases cL : L = []
   ·
    have cLa : ((L.length : Int) == 0) = true := by rw [cL]; rfl
    have XN := hid (show x.1 = 0 from by rw [← HX.out, cL]; exact rest_none HS.out C0.out)
    have cxa : (x.1 == 0) = true := beq_iff_eq.mpr XN.out
    have SLT := hid (show ∀ (w2 : World) (gl : Nat), Blk w2 gl 9 endsV → SlT w2 9 (.slice (some ⟨gl, 0, none⟩) 1 2) ((restW L).map Value.string) from fun w2 gl h => by rw [cL]; exact ends_one h)
    have CL := hid cL
    clear cL
    by_cases ce : x.2.e = 0
    ·
     have cea : (x.2.e == 0) = true := beq_iff_eq.mpr ce
     have CE := hid ce
     clear ce
     by_cases ca : x.2.a < (x.2.t.size : Int)
     ·
      have caa : decide (x.2.a < (x.2.t.size : Int)) = true := decide_eq_true ca
      have CA := hid ca
      clear ca
      have k1 := True.intro
      go_wp2_with (first
       | ((with_reducible refine gate_d (N := 5) rfl ?_); refine ag_fix (.pointer (some ⟨g, 2, none⟩)) (ex_field 40 2 (.pointer (some ⟨g, 0, none⟩)) (.pointer (some ⟨g, 2, none⟩)) (tk_fa2 g) _ rfl rfl) rfl ?_)
       | ((with_reducible refine gate_d (N := 6) rfl ?_); refine ag_fix (.int .i64 s.e) (ex_get tk_s32 g 2 (.int .i64 s.e) (TC s) BK.out.blk ((yv_pre (a := 3) rfl 2 (by decide)).trans rfl) _ rfl rfl) rfl ?_)
       | ((with_reducible refine gate_d (N := 8) rfl ?_); obtain ⟨gl, hgl⟩ : ∃ g_, wr.heap.size = g_ := ⟨_, rfl⟩; refine ag_litn (e := 9) 2 endsV gl hgl rfl _ rfl (fun w_ => by (try simp only [List.map_toArray, List.map_cons, List.map_nil]); kernel_rfl) ?_; intro w2 hb_ hB_ hs_; have BK2 := hid (BK.out.move (hb_.block g (by have := BK.out.blk.lt; omega))); have OM2 := hid (OM.out.move (hb_.block b (by have := OM.out.lt; omega))); have HL2 := hid (HL.out.trans (Tw.of_below (hb_.mono (show wr.heap.size ≤ gl by omega)) g b) HL.out.size); have BKl := hid hB_; clear hb_ hB_ hs_ hgl)
       | ((with_reducible refine gate_d (N := 11) rfl ?_); refine ag_fix (.pointer (some ⟨g, 79, none⟩)) (ex_field 40 5 (.pointer (some ⟨g, 0, none⟩)) (.pointer (some ⟨g, 79, none⟩)) (tk_fa5 g) _ rfl rfl) rfl ?_)
       | ((with_reducible refine gate_d (N := 12) rfl ?_); refine ag_fix (.map (some b)) (ex_get tk_s37 g 79 (.map (some b)) (TC s) BK2.out.blk ((yv_cell (a := 3) (n := 64) rfl BK2.out.len 12 79 (by decide)).trans (by show some s.le = _; rw [HLE.out])) _ rfl rfl) rfl ?_)
       | ((with_reducible refine gate_d (N := 13) rfl ?_); refine ag_fix (.int .i64 (L.length : Int)) (ex_mlen OM2.out _ rfl rfl) rfl ?_)
       | ((with_reducible refine gate_d (N := 16) rfl ?_); refine ag_fix (.slice (some ⟨gl, 0, none⟩) 1 2) (ex_slh tk_us ⟨_, tk_s9.size⟩ _ 2 2 _ rfl 1 (by decide) (by decide) (by decide) _ _ rfl rfl rfl) rfl ?_)
       | (go_at_call 14; clear k1; refine (CC.out _ _ BK2.out (SLT.out _ _ BKl.out)).mono ?_; rintro e_ w4 ⟨rfl, hB_, hx_⟩; have OM4 := hid (OM2.out.move (hx_.block b OM2.out.lt KB.out)); have HL4 := hid (HL2.out.trans (Tw.of_bex hx_ b) HL2.out.size); have BK4 := hid hB_; clear hB_ hx_))
      (try simp only [Act.put, sI, sZ, sS])
      refine sq_region (fun w'_ => RB w'_ g x.2) [] [(0, 2), (1, 2), (2, 2), (3, 1), (4, 2), (5, 2), (6, 2), (7, 2), (8, 2), (9, 1), (10, 2), (11, 2), (12, 2), (13, 1), (14, 2), (15, 2), (16, 2)] (by kernel_rfl) (by kernel_rfl) (by kernel_rfl) rfl ?_
      intro wt hb_
      have BKt := hid (BK4.out.move (hb_.block g BK4.out.blk.lt))
      have HLt := hid (HL4.out.trans (Tw.of_below hb_ g b) HL4.out.size)
      clear hb_
      refine sq_pure (.pointer (some ⟨g, 0, none⟩)) rfl (fun w'_ => ex_mv (.tmp 0) (.inl rfl) _ rfl) rfl rfl ?_
      intro ts_ ht_; simp only [sI, sZ, sS] at ht_; subst ht_
      refine sq_pure (.pointer (some ⟨g, 0, none⟩)) rfl (fun w'_ => by go_simp) rfl rfl ?_
      intro ts_ ht_; simp only [sI, sZ, sS] at ht_; subst ht_
      refine sq_pure (.pointer (some ⟨g, 2, none⟩)) rfl (fun w'_ => ex_field 40 2 (.pointer (some ⟨g, 0, none⟩)) (.pointer (some ⟨g, 2, none⟩)) (tk_fa2 g) _ rfl rfl) rfl rfl ?_
      intro ts_ ht_; simp only [sI, sZ, sS] at ht_; subst ht_
      refine sq_take (.int .i64 x.2.e) BKt.out rfl (fun w'_ hS_ => ex_get tk_s32 g 2 (.int .i64 x.2.e) (TC x.2) hS_.blk ((yv_pre (a := 3) rfl 2 (by decide)).trans rfl) _ rfl rfl) rfl rfl ?_
      intro ts_ ht_; simp only [sI, sZ, sS] at ht_; subst ht_
      refine sq_pure (.bool true) rfl (fun w'_ => by go_simp) rfl rfl ?_
      intro ts_ ht_; simp only [sI, sZ, sS] at ht_; subst ht_
      refine sq_pure (.bool true) rfl (fun w'_ => by go_simp) rfl rfl ?_
      intro ts_ ht_; simp only [sI, sZ, sS] at ht_; subst ht_
      refine sq_pure (.pointer (some ⟨g, 0, none⟩)) rfl (fun w'_ => ex_mv (.tmp 0) (.inl rfl) _ rfl) rfl rfl ?_
      intro ts_ ht_; simp only [sI, sZ, sS] at ht_; subst ht_
      refine sq_pure (.pointer (some ⟨g, 0, none⟩)) rfl (fun w'_ => by go_simp) rfl rfl ?_
      intro ts_ ht_; simp only [sI, sZ, sS] at ht_; subst ht_
      refine sq_pure (.pointer (some ⟨g, 1, none⟩)) rfl (fun w'_ => ex_field 40 1 (.pointer (some ⟨g, 0, none⟩)) (.pointer (some ⟨g, 1, none⟩)) (tk_fa1 g) _ rfl rfl) rfl rfl ?_
      intro ts_ ht_; simp only [sI, sZ, sS] at ht_; subst ht_
      refine sq_take (.int .i64 x.2.a) BKt.out rfl (fun w'_ hS_ => ex_get tk_s3 g 1 (.int .i64 x.2.a) (TC x.2) hS_.blk ((yv_pre (a := 3) rfl 1 (by decide)).trans rfl) _ rfl rfl) rfl rfl ?_
      intro ts_ ht_; simp only [sI, sZ, sS] at ht_; subst ht_
      refine sq_pure (.pointer (some ⟨g, 0, none⟩)) rfl (fun w'_ => ex_mv (.tmp 0) (.inl rfl) _ rfl) rfl rfl ?_
      intro ts_ ht_; simp only [sI, sZ, sS] at ht_; subst ht_
      refine sq_pure (.pointer (some ⟨g, 0, none⟩)) rfl (fun w'_ => by go_simp) rfl rfl ?_
      intro ts_ ht_; simp only [sI, sZ, sS] at ht_; subst ht_
      refine sq_pure (.pointer (some ⟨g, 0, none⟩)) rfl (fun w'_ => ex_field 40 0 (.pointer (some ⟨g, 0, none⟩)) (.pointer (some ⟨g, 0, none⟩)) (tk_fa0 g) _ rfl rfl) rfl rfl ?_
      intro ts_ ht_; simp only [sI, sZ, sS] at ht_; subst ht_
      refine sq_take (.string x.2.t) BKt.out rfl (fun w'_ hS_ => ex_get tk_s9 g 0 (.string x.2.t) (TC x.2) hS_.blk ((yv_pre (a := 3) rfl 0 (by decide)).trans rfl) _ rfl rfl) rfl rfl ?_
      intro ts_ ht_; simp only [sI, sZ, sS] at ht_; subst ht_
      refine sq_pure (.int .i64 (x.2.t.size : Int)) rfl (fun w'_ => by go_simp) rfl rfl ?_
      intro ts_ ht_; simp only [sI, sZ, sS] at ht_; subst ht_
      refine sq_pure (.bool true) rfl (fun w'_ => by go_simp) rfl rfl ?_
      intro ts_ ht_; simp only [sI, sZ, sS] at ht_; subst ht_
      refine sq_pure (.bool true) rfl (fun w'_ => by go_simp) rfl rfl ?_
      intro ts_ ht_; simp only [sI, sZ, sS] at ht_; subst ht_
      refine sq_end ?_
      go_wp2_with (first
       | ((with_reducible refine gate_d (N := 47) rfl ?_); refine ag_fix (.pointer (some ⟨g, 2, none⟩)) (ex_field 40 2 (.pointer (some ⟨g, 0, none⟩)) (.pointer (some ⟨g, 2, none⟩)) (tk_fa2 g) _ rfl rfl) rfl ?_)
       | ((with_reducible refine gate_s (t := 32) (p := 47) rfl ?_); refine ag_set tk_s32 g 2 (.int .i64 2) (TC x.2) (TC { x.2 with e := 2 }) BKt.out.blk (yv_lt (a := 3) (n := 64) (c := 13) rfl BKt.out.len rfl (m := 2) (by decide)) rfl rfl ((yv_setp (a := 3) rfl 2 (by decide) _).trans rfl) rfl _ _ rfl rfl rfl ?_; intro we ho_ hB_; have HLe := hid (HLt.out.trans (Tw.of_off ho_ b wt.heap.size) HLt.out.size); have BKe := hid (RB.mk (s := { x.2 with e := 2 }) BKt.out.len hB_); clear ho_ hB_))
      (first | go_end0 | refine bodyPost_ret (results_none rfl _ _ _) rfl ?_)
      have RES : restR L0 s0 = { x.2 with e := 2 } := by unfold restR; rw [HR0.out, ← HRX.out, if_pos XN.out]; exact if_pos ⟨CE.out, CA.out⟩
      rw [RES]
      exact ⟨rfl, BKe.out, HLe.out⟩
     ·
      have caa : decide (x.2.a < (x.2.t.size : Int)) = false := decide_eq_false ca
      have CA := hid ca
      clear ca
      have k1 := True.intro
      go_wp2_with (first
       | ((with_reducible refine gate_d (N := 5) rfl ?_); refine ag_fix (.pointer (some ⟨g, 2, none⟩)) (ex_field 40 2 (.pointer (some ⟨g, 0, none⟩)) (.pointer (some ⟨g, 2, none⟩)) (tk_fa2 g) _ rfl rfl) rfl ?_)
       | ((with_reducible refine gate_d (N := 6) rfl ?_); refine ag_fix (.int .i64 s.e) (ex_get tk_s32 g 2 (.int .i64 s.e) (TC s) BK.out.blk ((yv_pre (a := 3) rfl 2 (by decide)).trans rfl) _ rfl rfl) rfl ?_)
       | ((with_reducible refine gate_d (N := 8) rfl ?_); obtain ⟨gl, hgl⟩ : ∃ g_, wr.heap.size = g_ := ⟨_, rfl⟩; refine ag_litn (e := 9) 2 endsV gl hgl rfl _ rfl (fun w_ => by (try simp only [List.map_toArray, List.map_cons, List.map_nil]); kernel_rfl) ?_; intro w2 hb_ hB_ hs_; have BK2 := hid (BK.out.move (hb_.block g (by have := BK.out.blk.lt; omega))); have OM2 := hid (OM.out.move (hb_.block b (by have := OM.out.lt; omega))); have HL2 := hid (HL.out.trans (Tw.of_below (hb_.mono (show wr.heap.size ≤ gl by omega)) g b) HL.out.size); have BKl := hid hB_; clear hb_ hB_ hs_ hgl)
       | ((with_reducible refine gate_d (N := 11) rfl ?_); refine ag_fix (.pointer (some ⟨g, 79, none⟩)) (ex_field 40 5 (.pointer (some ⟨g, 0, none⟩)) (.pointer (some ⟨g, 79, none⟩)) (tk_fa5 g) _ rfl rfl) rfl ?_)
       | ((with_reducible refine gate_d (N := 12) rfl ?_); refine ag_fix (.map (some b)) (ex_get tk_s37 g 79 (.map (some b)) (TC s) BK2.out.blk ((yv_cell (a := 3) (n := 64) rfl BK2.out.len 12 79 (by decide)).trans (by show some s.le = _; rw [HLE.out])) _ rfl rfl) rfl ?_)
       | ((with_reducible refine gate_d (N := 13) rfl ?_); refine ag_fix (.int .i64 (L.length : Int)) (ex_mlen OM2.out _ rfl rfl) rfl ?_)
       | ((with_reducible refine gate_d (N := 16) rfl ?_); refine ag_fix (.slice (some ⟨gl, 0, none⟩) 1 2) (ex_slh tk_us ⟨_, tk_s9.size⟩ _ 2 2 _ rfl 1 (by decide) (by decide) (by decide) _ _ rfl rfl rfl) rfl ?_)
       | (go_at_call 14; clear k1; refine (CC.out _ _ BK2.out (SLT.out _ _ BKl.out)).mono ?_; rintro e_ w4 ⟨rfl, hB_, hx_⟩; have OM4 := hid (OM2.out.move (hx_.block b OM2.out.lt KB.out)); have HL4 := hid (HL2.out.trans (Tw.of_bex hx_ b) HL2.out.size); have BK4 := hid hB_; clear hB_ hx_))
      (try simp only [Act.put, sI, sZ, sS])
      refine sq_region (fun w'_ => RB w'_ g x.2) [] [(0, 2), (1, 2), (2, 2), (3, 1), (4, 2), (5, 2), (6, 2), (7, 2), (8, 2), (9, 1), (10, 2), (11, 2), (12, 2), (13, 1), (14, 2), (15, 2), (16, 2)] (by kernel_rfl) (by kernel_rfl) (by kernel_rfl) rfl ?_
      intro wt hb_
      have BKt := hid (BK4.out.move (hb_.block g BK4.out.blk.lt))
      have HLt := hid (HL4.out.trans (Tw.of_below hb_ g b) HL4.out.size)
      clear hb_
      refine sq_pure (.pointer (some ⟨g, 0, none⟩)) rfl (fun w'_ => ex_mv (.tmp 0) (.inl rfl) _ rfl) rfl rfl ?_
      intro ts_ ht_; simp only [sI, sZ, sS] at ht_; subst ht_
      refine sq_pure (.pointer (some ⟨g, 0, none⟩)) rfl (fun w'_ => by go_simp) rfl rfl ?_
      intro ts_ ht_; simp only [sI, sZ, sS] at ht_; subst ht_
      refine sq_pure (.pointer (some ⟨g, 2, none⟩)) rfl (fun w'_ => ex_field 40 2 (.pointer (some ⟨g, 0, none⟩)) (.pointer (some ⟨g, 2, none⟩)) (tk_fa2 g) _ rfl rfl) rfl rfl ?_
      intro ts_ ht_; simp only [sI, sZ, sS] at ht_; subst ht_
      refine sq_take (.int .i64 x.2.e) BKt.out rfl (fun w'_ hS_ => ex_get tk_s32 g 2 (.int .i64 x.2.e) (TC x.2) hS_.blk ((yv_pre (a := 3) rfl 2 (by decide)).trans rfl) _ rfl rfl) rfl rfl ?_
      intro ts_ ht_; simp only [sI, sZ, sS] at ht_; subst ht_
      refine sq_pure (.bool true) rfl (fun w'_ => by go_simp) rfl rfl ?_
      intro ts_ ht_; simp only [sI, sZ, sS] at ht_; subst ht_
      refine sq_pure (.bool true) rfl (fun w'_ => by go_simp) rfl rfl ?_
      intro ts_ ht_; simp only [sI, sZ, sS] at ht_; subst ht_
      refine sq_pure (.pointer (some ⟨g, 0, none⟩)) rfl (fun w'_ => ex_mv (.tmp 0) (.inl rfl) _ rfl) rfl rfl ?_
      intro ts_ ht_; simp only [sI, sZ, sS] at ht_; subst ht_
      refine sq_pure (.pointer (some ⟨g, 0, none⟩)) rfl (fun w'_ => by go_simp) rfl rfl ?_
      intro ts_ ht_; simp only [sI, sZ, sS] at ht_; subst ht_
      refine sq_pure (.pointer (some ⟨g, 1, none⟩)) rfl (fun w'_ => ex_field 40 1 (.pointer (some ⟨g, 0, none⟩)) (.pointer (some ⟨g, 1, none⟩)) (tk_fa1 g) _ rfl rfl) rfl rfl ?_
      intro ts_ ht_; simp only [sI, sZ, sS] at ht_; subst ht_
      refine sq_take (.int .i64 x.2.a) BKt.out rfl (fun w'_ hS_ => ex_get tk_s3 g 1 (.int .i64 x.2.a) (TC x.2) hS_.blk ((yv_pre (a := 3) rfl 1 (by decide)).trans rfl) _ rfl rfl) rfl rfl ?_
      intro ts_ ht_; simp only [sI, sZ, sS] at ht_; subst ht_
      refine sq_pure (.pointer (some ⟨g, 0, none⟩)) rfl (fun w'_ => ex_mv (.tmp 0) (.inl rfl) _ rfl) rfl rfl ?_
      intro ts_ ht_; simp only [sI, sZ, sS] at ht_; subst ht_
      refine sq_pure (.pointer (some ⟨g, 0, none⟩)) rfl (fun w'_ => by go_simp) rfl rfl ?_
      intro ts_ ht_; simp only [sI, sZ, sS] at ht_; subst ht_
      refine sq_pure (.pointer (some ⟨g, 0, none⟩)) rfl (fun w'_ => ex_field 40 0 (.pointer (some ⟨g, 0, none⟩)) (.pointer (some ⟨g, 0, none⟩)) (tk_fa0 g) _ rfl rfl) rfl rfl ?_
      intro ts_ ht_; simp only [sI, sZ, sS] at ht_; subst ht_
      refine sq_take (.string x.2.t) BKt.out rfl (fun w'_ hS_ => ex_get tk_s9 g 0 (.string x.2.t) (TC x.2) hS_.blk ((yv_pre (a := 3) rfl 0 (by decide)).trans rfl) _ rfl rfl) rfl rfl ?_
      intro ts_ ht_; simp only [sI, sZ, sS] at ht_; subst ht_
      refine sq_pure (.int .i64 (x.2.t.size : Int)) rfl (fun w'_ => by go_simp) rfl rfl ?_
      intro ts_ ht_; simp only [sI, sZ, sS] at ht_; subst ht_
      refine sq_pure (.bool false) rfl (fun w'_ => by go_simp) rfl rfl ?_
      intro ts_ ht_; simp only [sI, sZ, sS] at ht_; subst ht_
      refine sq_pure (.bool false) rfl (fun w'_ => by go_simp) rfl rfl ?_
      intro ts_ ht_; simp only [sI, sZ, sS] at ht_; subst ht_
      refine sq_end ?_
      go_wp2_with fail
      (first | go_end0 | refine bodyPost_ret (results_none rfl _ _ _) rfl ?_)
      have RES : restR L0 s0 = x.2 := by unfold restR; rw [HR0.out, ← HRX.out, if_pos XN.out]; exact if_neg (fun h => by have h1_ := CA.out; have h2_ := h.2; dsimp only at h2_; omega)
      rw [RES]
      exact ⟨rfl, BKt.out, HLt.out⟩
    ·
     have cea : (x.2.e == 0) = false := beq_eq_false_iff_ne.mpr ce
     have CE := hid ce
     clear ce
     have k1 := True.intro
     go_wp2_with (first
      | ((with_reducible refine gate_d (N := 5) rfl ?_); refine ag_fix (.pointer (some ⟨g, 2, none⟩)) (ex_field 40 2 (.pointer (some ⟨g, 0, none⟩)) (.pointer (some ⟨g, 2, none⟩)) (tk_fa2 g) _ rfl rfl) rfl ?_)
      | ((with_reducible refine gate_d (N := 6) rfl ?_); refine ag_fix (.int .i64 s.e) (ex_get tk_s32 g 2 (.int .i64 s.e) (TC s) BK.out.blk ((yv_pre (a := 3) rfl 2 (by decide)).trans rfl) _ rfl rfl) rfl ?_)
      | ((with_reducible refine gate_d (N := 8) rfl ?_); obtain ⟨gl, hgl⟩ : ∃ g_, wr.heap.size = g_ := ⟨_, rfl⟩; refine ag_litn (e := 9) 2 endsV gl hgl rfl _ rfl (fun w_ => by (try simp only [List.map_toArray, List.map_cons, List.map_nil]); kernel_rfl) ?_; intro w2 hb_ hB_ hs_; have BK2 := hid (BK.out.move (hb_.block g (by have := BK.out.blk.lt; omega))); have OM2 := hid (OM.out.move (hb_.block b (by have := OM.out.lt; omega))); have HL2 := hid (HL.out.trans (Tw.of_below (hb_.mono (show wr.heap.size ≤ gl by omega)) g b) HL.out.size); have BKl := hid hB_; clear hb_ hB_ hs_ hgl)
      | ((with_reducible refine gate_d (N := 11) rfl ?_); refine ag_fix (.pointer (some ⟨g, 79, none⟩)) (ex_field 40 5 (.pointer (some ⟨g, 0, none⟩)) (.pointer (some ⟨g, 79, none⟩)) (tk_fa5 g) _ rfl rfl) rfl ?_)
      | ((with_reducible refine gate_d (N := 12) rfl ?_); refine ag_fix (.map (some b)) (ex_get tk_s37 g 79 (.map (some b)) (TC s) BK2.out.blk ((yv_cell (a := 3) (n := 64) rfl BK2.out.len 12 79 (by decide)).trans (by show some s.le = _; rw [HLE.out])) _ rfl rfl) rfl ?_)
      | ((with_reducible refine gate_d (N := 13) rfl ?_); refine ag_fix (.int .i64 (L.length : Int)) (ex_mlen OM2.out _ rfl rfl) rfl ?_)
      | ((with_reducible refine gate_d (N := 16) rfl ?_); refine ag_fix (.slice (some ⟨gl, 0, none⟩) 1 2) (ex_slh tk_us ⟨_, tk_s9.size⟩ _ 2 2 _ rfl 1 (by decide) (by decide) (by decide) _ _ rfl rfl rfl) rfl ?_)
      | (go_at_call 14; clear k1; refine (CC.out _ _ BK2.out (SLT.out _ _ BKl.out)).mono ?_; rintro e_ w4 ⟨rfl, hB_, hx_⟩; have OM4 := hid (OM2.out.move (hx_.block b OM2.out.lt KB.out)); have HL4 := hid (HL2.out.trans (Tw.of_bex hx_ b) HL2.out.size); have BK4 := hid hB_; clear hB_ hx_))
     (try simp only [Act.put, sI, sZ, sS])
     refine sq_region (fun w'_ => RB w'_ g x.2) [] [(0, 2), (1, 2), (2, 2), (3, 1), (4, 2), (5, 2), (6, 2), (7, 2), (8, 2), (9, 2), (10, 2), (11, 2), (12, 2), (13, 2), (14, 2), (15, 2), (16, 2)] (by kernel_rfl) (by kernel_rfl) (by kernel_rfl) rfl ?_
     intro wt hb_
     have BKt := hid (BK4.out.move (hb_.block g BK4.out.blk.lt))
     have HLt := hid (HL4.out.trans (Tw.of_below hb_ g b) HL4.out.size)
     clear hb_
     refine sq_pure (.pointer (some ⟨g, 0, none⟩)) rfl (fun w'_ => ex_mv (.tmp 0) (.inl rfl) _ rfl) rfl rfl ?_
     intro ts_ ht_; simp only [sI, sZ, sS] at ht_; subst ht_
     refine sq_pure (.pointer (some ⟨g, 0, none⟩)) rfl (fun w'_ => by go_simp) rfl rfl ?_
     intro ts_ ht_; simp only [sI, sZ, sS] at ht_; subst ht_
     refine sq_pure (.pointer (some ⟨g, 2, none⟩)) rfl (fun w'_ => ex_field 40 2 (.pointer (some ⟨g, 0, none⟩)) (.pointer (some ⟨g, 2, none⟩)) (tk_fa2 g) _ rfl rfl) rfl rfl ?_
     intro ts_ ht_; simp only [sI, sZ, sS] at ht_; subst ht_
     refine sq_take (.int .i64 x.2.e) BKt.out rfl (fun w'_ hS_ => ex_get tk_s32 g 2 (.int .i64 x.2.e) (TC x.2) hS_.blk ((yv_pre (a := 3) rfl 2 (by decide)).trans rfl) _ rfl rfl) rfl rfl ?_
     intro ts_ ht_; simp only [sI, sZ, sS] at ht_; subst ht_
     refine sq_pure (.bool false) rfl (fun w'_ => by go_simp) rfl rfl ?_
     intro ts_ ht_; simp only [sI, sZ, sS] at ht_; subst ht_
     refine sq_pure (.bool false) rfl (fun w'_ => by go_simp) rfl rfl ?_
     intro ts_ ht_; simp only [sI, sZ, sS] at ht_; subst ht_
     refine sq_not 5 false rfl rfl rfl rfl ?_
     intro ts_ ht_; simp only [sI, sZ, sS] at ht_; subst ht_
     refine sq_not 5 false rfl rfl rfl rfl ?_
     intro ts_ ht_; simp only [sI, sZ, sS] at ht_; subst ht_
     refine sq_not 5 false rfl rfl rfl rfl ?_
     intro ts_ ht_; simp only [sI, sZ, sS] at ht_; subst ht_
     refine sq_not 5 false rfl rfl rfl rfl ?_
     intro ts_ ht_; simp only [sI, sZ, sS] at ht_; subst ht_
     refine sq_not 5 false rfl rfl rfl rfl ?_
     intro ts_ ht_; simp only [sI, sZ, sS] at ht_; subst ht_
     refine sq_not 5 false rfl rfl rfl rfl ?_
     intro ts_ ht_; simp only [sI, sZ, sS] at ht_; subst ht_
     refine sq_not 5 false rfl rfl rfl rfl ?_
     intro ts_ ht_; simp only [sI, sZ, sS] at ht_; subst ht_
     refine sq_not 5 false rfl rfl rfl rfl ?_
     intro ts_ ht_; simp only [sI, sZ, sS] at ht_; subst ht_
     refine sq_not 5 false rfl rfl rfl rfl ?_
     intro ts_ ht_; simp only [sI, sZ, sS] at ht_; subst ht_
     refine sq_not 5 false rfl rfl rfl rfl ?_
     intro ts_ ht_; simp only [sI, sZ, sS] at ht_; subst ht_
     refine sq_pure (.bool false) rfl (fun w'_ => by go_simp) rfl rfl ?_
     intro ts_ ht_; simp only [sI, sZ, sS] at ht_; subst ht_
     refine sq_end ?_
     go_wp2_with fail
     (first | go_end0 | refine bodyPost_ret (results_none rfl _ _ _) rfl ?_)
     have RES : restR L0 s0 = x.2 := by unfold restR; rw [HR0.out, ← HRX.out, if_pos XN.out]; exact if_neg (fun h => CE.out h.1)
     rw [RES]
     exact ⟨rfl, BKt.out, HLt.out⟩
   ·
    have cLa : ((L.length : Int) == 0) = false := beq_eq_false_iff_ne.mpr (by have := List.length_pos_iff.2 cL; omega)
    have SLT := hid (show ∀ (w2 : World) (gl : Nat), Blk w2 gl 9 endsV → SlT w2 9 (.slice (some ⟨gl, 0, none⟩) 2 2) ((restW L).map Value.string) from fun w2 gl h => ends_two cL h)
    have CL := hid cL
    clear cL
    by_cases cx : x.1 = 0
    ·
     have cxa : (x.1 == 0) = true := beq_iff_eq.mpr cx
     have XN := hid cx
     clear cx
     by_cases ce : x.2.e = 0
     ·
      have cea : (x.2.e == 0) = true := beq_iff_eq.mpr ce
      have CE := hid ce
      clear ce
      by_cases ca : x.2.a < (x.2.t.size : Int)
      ·
       have caa : decide (x.2.a < (x.2.t.size : Int)) = true := decide_eq_true ca
       have CA := hid ca
       clear ca
       have k1 := True.intro
       go_wp2_with (first
        | ((with_reducible refine gate_d (N := 5) rfl ?_); refine ag_fix (.pointer (some ⟨g, 2, none⟩)) (ex_field 40 2 (.pointer (some ⟨g, 0, none⟩)) (.pointer (some ⟨g, 2, none⟩)) (tk_fa2 g) _ rfl rfl) rfl ?_)
        | ((with_reducible refine gate_d (N := 6) rfl ?_); refine ag_fix (.int .i64 s.e) (ex_get tk_s32 g 2 (.int .i64 s.e) (TC s) BK.out.blk ((yv_pre (a := 3) rfl 2 (by decide)).trans rfl) _ rfl rfl) rfl ?_)
        | ((with_reducible refine gate_d (N := 8) rfl ?_); obtain ⟨gl, hgl⟩ : ∃ g_, wr.heap.size = g_ := ⟨_, rfl⟩; refine ag_litn (e := 9) 2 endsV gl hgl rfl _ rfl (fun w_ => by (try simp only [List.map_toArray, List.map_cons, List.map_nil]); kernel_rfl) ?_; intro w2 hb_ hB_ hs_; have BK2 := hid (BK.out.move (hb_.block g (by have := BK.out.blk.lt; omega))); have OM2 := hid (OM.out.move (hb_.block b (by have := OM.out.lt; omega))); have HL2 := hid (HL.out.trans (Tw.of_below (hb_.mono (show wr.heap.size ≤ gl by omega)) g b) HL.out.size); have BKl := hid hB_; clear hb_ hB_ hs_ hgl)
        | ((with_reducible refine gate_d (N := 11) rfl ?_); refine ag_fix (.pointer (some ⟨g, 79, none⟩)) (ex_field 40 5 (.pointer (some ⟨g, 0, none⟩)) (.pointer (some ⟨g, 79, none⟩)) (tk_fa5 g) _ rfl rfl) rfl ?_)
        | ((with_reducible refine gate_d (N := 12) rfl ?_); refine ag_fix (.map (some b)) (ex_get tk_s37 g 79 (.map (some b)) (TC s) BK2.out.blk ((yv_cell (a := 3) (n := 64) rfl BK2.out.len 12 79 (by decide)).trans (by show some s.le = _; rw [HLE.out])) _ rfl rfl) rfl ?_)
        | ((with_reducible refine gate_d (N := 13) rfl ?_); refine ag_fix (.int .i64 (L.length : Int)) (ex_mlen OM2.out _ rfl rfl) rfl ?_)
        | (go_at_call 14; clear k1; refine (CC.out _ _ BK2.out (SLT.out _ _ BKl.out)).mono ?_; rintro e_ w4 ⟨rfl, hB_, hx_⟩; have OM4 := hid (OM2.out.move (hx_.block b OM2.out.lt KB.out)); have HL4 := hid (HL2.out.trans (Tw.of_bex hx_ b) HL2.out.size); have BK4 := hid hB_; clear hB_ hx_))
       (try simp only [Act.put, sI, sZ, sS])
       refine sq_region (fun w'_ => RB w'_ g x.2) [] [(0, 2), (1, 2), (2, 2), (3, 1), (4, 2), (5, 2), (6, 2), (7, 2), (8, 2), (9, 1), (10, 2), (11, 2), (12, 2), (13, 1), (14, 2), (15, 2), (16, 2)] (by kernel_rfl) (by kernel_rfl) (by kernel_rfl) rfl ?_
       intro wt hb_
       have BKt := hid (BK4.out.move (hb_.block g BK4.out.blk.lt))
       have HLt := hid (HL4.out.trans (Tw.of_below hb_ g b) HL4.out.size)
       clear hb_
       refine sq_pure (.pointer (some ⟨g, 0, none⟩)) rfl (fun w'_ => ex_mv (.tmp 0) (.inl rfl) _ rfl) rfl rfl ?_
       intro ts_ ht_; simp only [sI, sZ, sS] at ht_; subst ht_
       refine sq_pure (.pointer (some ⟨g, 0, none⟩)) rfl (fun w'_ => by go_simp) rfl rfl ?_
       intro ts_ ht_; simp only [sI, sZ, sS] at ht_; subst ht_
       refine sq_pure (.pointer (some ⟨g, 2, none⟩)) rfl (fun w'_ => ex_field 40 2 (.pointer (some ⟨g, 0, none⟩)) (.pointer (some ⟨g, 2, none⟩)) (tk_fa2 g) _ rfl rfl) rfl rfl ?_
       intro ts_ ht_; simp only [sI, sZ, sS] at ht_; subst ht_
       refine sq_take (.int .i64 x.2.e) BKt.out rfl (fun w'_ hS_ => ex_get tk_s32 g 2 (.int .i64 x.2.e) (TC x.2) hS_.blk ((yv_pre (a := 3) rfl 2 (by decide)).trans rfl) _ rfl rfl) rfl rfl ?_
       intro ts_ ht_; simp only [sI, sZ, sS] at ht_; subst ht_
       refine sq_pure (.bool true) rfl (fun w'_ => by go_simp) rfl rfl ?_
       intro ts_ ht_; simp only [sI, sZ, sS] at ht_; subst ht_
       refine sq_pure (.bool true) rfl (fun w'_ => by go_simp) rfl rfl ?_
       intro ts_ ht_; simp only [sI, sZ, sS] at ht_; subst ht_
       refine sq_pure (.pointer (some ⟨g, 0, none⟩)) rfl (fun w'_ => ex_mv (.tmp 0) (.inl rfl) _ rfl) rfl rfl ?_
       intro ts_ ht_; simp only [sI, sZ, sS] at ht_; subst ht_
       refine sq_pure (.pointer (some ⟨g, 0, none⟩)) rfl (fun w'_ => by go_simp) rfl rfl ?_
       intro ts_ ht_; simp only [sI, sZ, sS] at ht_; subst ht_
       refine sq_pure (.pointer (some ⟨g, 1, none⟩)) rfl (fun w'_ => ex_field 40 1 (.pointer (some ⟨g, 0, none⟩)) (.pointer (some ⟨g, 1, none⟩)) (tk_fa1 g) _ rfl rfl) rfl rfl ?_
       intro ts_ ht_; simp only [sI, sZ, sS] at ht_; subst ht_
       refine sq_take (.int .i64 x.2.a) BKt.out rfl (fun w'_ hS_ => ex_get tk_s3 g 1 (.int .i64 x.2.a) (TC x.2) hS_.blk ((yv_pre (a := 3) rfl 1 (by decide)).trans rfl) _ rfl rfl) rfl rfl ?_
       intro ts_ ht_; simp only [sI, sZ, sS] at ht_; subst ht_
       refine sq_pure (.pointer (some ⟨g, 0, none⟩)) rfl (fun w'_ => ex_mv (.tmp 0) (.inl rfl) _ rfl) rfl rfl ?_
       intro ts_ ht_; simp only [sI, sZ, sS] at ht_; subst ht_
       refine sq_pure (.pointer (some ⟨g, 0, none⟩)) rfl (fun w'_ => by go_simp) rfl rfl ?_
       intro ts_ ht_; simp only [sI, sZ, sS] at ht_; subst ht_
       refine sq_pure (.pointer (some ⟨g, 0, none⟩)) rfl (fun w'_ => ex_field 40 0 (.pointer (some ⟨g, 0, none⟩)) (.pointer (some ⟨g, 0, none⟩)) (tk_fa0 g) _ rfl rfl) rfl rfl ?_
       intro ts_ ht_; simp only [sI, sZ, sS] at ht_; subst ht_
       refine sq_take (.string x.2.t) BKt.out rfl (fun w'_ hS_ => ex_get tk_s9 g 0 (.string x.2.t) (TC x.2) hS_.blk ((yv_pre (a := 3) rfl 0 (by decide)).trans rfl) _ rfl rfl) rfl rfl ?_
       intro ts_ ht_; simp only [sI, sZ, sS] at ht_; subst ht_
       refine sq_pure (.int .i64 (x.2.t.size : Int)) rfl (fun w'_ => by go_simp) rfl rfl ?_
       intro ts_ ht_; simp only [sI, sZ, sS] at ht_; subst ht_
       refine sq_pure (.bool true) rfl (fun w'_ => by go_simp) rfl rfl ?_
       intro ts_ ht_; simp only [sI, sZ, sS] at ht_; subst ht_
       refine sq_pure (.bool true) rfl (fun w'_ => by go_simp) rfl rfl ?_
       intro ts_ ht_; simp only [sI, sZ, sS] at ht_; subst ht_
       refine sq_end ?_
       go_wp2_with (first
        | ((with_reducible refine gate_d (N := 47) rfl ?_); refine ag_fix (.pointer (some ⟨g, 2, none⟩)) (ex_field 40 2 (.pointer (some ⟨g, 0, none⟩)) (.pointer (some ⟨g, 2, none⟩)) (tk_fa2 g) _ rfl rfl) rfl ?_)
        | ((with_reducible refine gate_s (t := 32) (p := 47) rfl ?_); refine ag_set tk_s32 g 2 (.int .i64 2) (TC x.2) (TC { x.2 with e := 2 }) BKt.out.blk (yv_lt (a := 3) (n := 64) (c := 13) rfl BKt.out.len rfl (m := 2) (by decide)) rfl rfl ((yv_setp (a := 3) rfl 2 (by decide) _).trans rfl) rfl _ _ rfl rfl rfl ?_; intro we ho_ hB_; have HLe := hid (HLt.out.trans (Tw.of_off ho_ b wt.heap.size) HLt.out.size); have BKe := hid (RB.mk (s := { x.2 with e := 2 }) BKt.out.len hB_); clear ho_ hB_))
       (first | go_end0 | refine bodyPost_ret (results_none rfl _ _ _) rfl ?_)
       have RES : restR L0 s0 = { x.2 with e := 2 } := by unfold restR; rw [HR0.out, ← HRX.out, if_pos XN.out]; exact if_pos ⟨CE.out, CA.out⟩
       rw [RES]
       exact ⟨rfl, BKe.out, HLe.out⟩
      ·
       have caa : decide (x.2.a < (x.2.t.size : Int)) = false := decide_eq_false ca
       have CA := hid ca
       clear ca
       have k1 := True.intro
       go_wp2_with (first
        | ((with_reducible refine gate_d (N := 5) rfl ?_); refine ag_fix (.pointer (some ⟨g, 2, none⟩)) (ex_field 40 2 (.pointer (some ⟨g, 0, none⟩)) (.pointer (some ⟨g, 2, none⟩)) (tk_fa2 g) _ rfl rfl) rfl ?_)
        | ((with_reducible refine gate_d (N := 6) rfl ?_); refine ag_fix (.int .i64 s.e) (ex_get tk_s32 g 2 (.int .i64 s.e) (TC s) BK.out.blk ((yv_pre (a := 3) rfl 2 (by decide)).trans rfl) _ rfl rfl) rfl ?_)
        | ((with_reducible refine gate_d (N := 8) rfl ?_); obtain ⟨gl, hgl⟩ : ∃ g_, wr.heap.size = g_ := ⟨_, rfl⟩; refine ag_litn (e := 9) 2 endsV gl hgl rfl _ rfl (fun w_ => by (try simp only [List.map_toArray, List.map_cons, List.map_nil]); kernel_rfl) ?_; intro w2 hb_ hB_ hs_; have BK2 := hid (BK.out.move (hb_.block g (by have := BK.out.blk.lt; omega))); have OM2 := hid (OM.out.move (hb_.block b (by have := OM.out.lt; omega))); have HL2 := hid (HL.out.trans (Tw.of_below (hb_.mono (show wr.heap.size ≤ gl by omega)) g b) HL.out.size); have BKl := hid hB_; clear hb_ hB_ hs_ hgl)
        | ((with_reducible refine gate_d (N := 11) rfl ?_); refine ag_fix (.pointer (some ⟨g, 79, none⟩)) (ex_field 40 5 (.pointer (some ⟨g, 0, none⟩)) (.pointer (some ⟨g, 79, none⟩)) (tk_fa5 g) _ rfl rfl) rfl ?_)
        | ((with_reducible refine gate_d (N := 12) rfl ?_); refine ag_fix (.map (some b)) (ex_get tk_s37 g 79 (.map (some b)) (TC s) BK2.out.blk ((yv_cell (a := 3) (n := 64) rfl BK2.out.len 12 79 (by decide)).trans (by show some s.le = _; rw [HLE.out])) _ rfl rfl) rfl ?_)
        | ((with_reducible refine gate_d (N := 13) rfl ?_); refine ag_fix (.int .i64 (L.length : Int)) (ex_mlen OM2.out _ rfl rfl) rfl ?_)
        | (go_at_call 14; clear k1; refine (CC.out _ _ BK2.out (SLT.out _ _ BKl.out)).mono ?_; rintro e_ w4 ⟨rfl, hB_, hx_⟩; have OM4 := hid (OM2.out.move (hx_.block b OM2.out.lt KB.out)); have HL4 := hid (HL2.out.trans (Tw.of_bex hx_ b) HL2.out.size); have BK4 := hid hB_; clear hB_ hx_))
       (try simp only [Act.put, sI, sZ, sS])
       refine sq_region (fun w'_ => RB w'_ g x.2) [] [(0, 2), (1, 2), (2, 2), (3, 1), (4, 2), (5, 2), (6, 2), (7, 2), (8, 2), (9, 1), (10, 2), (11, 2), (12, 2), (13, 1), (14, 2), (15, 2), (16, 2)] (by kernel_rfl) (by kernel_rfl) (by kernel_rfl) rfl ?_
       intro wt hb_
       have BKt := hid (BK4.out.move (hb_.block g BK4.out.blk.lt))
       have HLt := hid (HL4.out.trans (Tw.of_below hb_ g b) HL4.out.size)
       clear hb_
       refine sq_pure (.pointer (some ⟨g, 0, none⟩)) rfl (fun w'_ => ex_mv (.tmp 0) (.inl rfl) _ rfl) rfl rfl ?_
       intro ts_ ht_; simp only [sI, sZ, sS] at ht_; subst ht_
       refine sq_pure (.pointer (some ⟨g, 0, none⟩)) rfl (fun w'_ => by go_simp) rfl rfl ?_
       intro ts_ ht_; simp only [sI, sZ, sS] at ht_; subst ht_
       refine sq_pure (.pointer (some ⟨g, 2, none⟩)) rfl (fun w'_ => ex_field 40 2 (.pointer (some ⟨g, 0, none⟩)) (.pointer (some ⟨g, 2, none⟩)) (tk_fa2 g) _ rfl rfl) rfl rfl ?_
       intro ts_ ht_; simp only [sI, sZ, sS] at ht_; subst ht_
       refine sq_take (.int .i64 x.2.e) BKt.out rfl (fun w'_ hS_ => ex_get tk_s32 g 2 (.int .i64 x.2.e) (TC x.2) hS_.blk ((yv_pre (a := 3) rfl 2 (by decide)).trans rfl) _ rfl rfl) rfl rfl ?_
       intro ts_ ht_; simp only [sI, sZ, sS] at ht_; subst ht_
       refine sq_pure (.bool true) rfl (fun w'_ => by go_simp) rfl rfl ?_
       intro ts_ ht_; simp only [sI, sZ, sS] at ht_; subst ht_
       refine sq_pure (.bool true) rfl (fun w'_ => by go_simp) rfl rfl ?_
       intro ts_ ht_; simp only [sI, sZ, sS] at ht_; subst ht_
       refine sq_pure (.pointer (some ⟨g, 0, none⟩)) rfl (fun w'_ => ex_mv (.tmp 0) (.inl rfl) _ rfl) rfl rfl ?_
       intro ts_ ht_; simp only [sI, sZ, sS] at ht_; subst ht_
       refine sq_pure (.pointer (some ⟨g, 0, none⟩)) rfl (fun w'_ => by go_simp) rfl rfl ?_
       intro ts_ ht_; simp only [sI, sZ, sS] at ht_; subst ht_
       refine sq_pure (.pointer (some ⟨g, 1, none⟩)) rfl (fun w'_ => ex_field 40 1 (.pointer (some ⟨g, 0, none⟩)) (.pointer (some ⟨g, 1, none⟩)) (tk_fa1 g) _ rfl rfl) rfl rfl ?_
       intro ts_ ht_; simp only [sI, sZ, sS] at ht_; subst ht_
       refine sq_take (.int .i64 x.2.a) BKt.out rfl (fun w'_ hS_ => ex_get tk_s3 g 1 (.int .i64 x.2.a) (TC x.2) hS_.blk ((yv_pre (a := 3) rfl 1 (by decide)).trans rfl) _ rfl rfl) rfl rfl ?_
       intro ts_ ht_; simp only [sI, sZ, sS] at ht_; subst ht_
       refine sq_pure (.pointer (some ⟨g, 0, none⟩)) rfl (fun w'_ => ex_mv (.tmp 0) (.inl rfl) _ rfl) rfl rfl ?_
       intro ts_ ht_; simp only [sI, sZ, sS] at ht_; subst ht_
       refine sq_pure (.pointer (some ⟨g, 0, none⟩)) rfl (fun w'_ => by go_simp) rfl rfl ?_
       intro ts_ ht_; simp only [sI, sZ, sS] at ht_; subst ht_
       refine sq_pure (.pointer (some ⟨g, 0, none⟩)) rfl (fun w'_ => ex_field 40 0 (.pointer (some ⟨g, 0, none⟩)) (.pointer (some ⟨g, 0, none⟩)) (tk_fa0 g) _ rfl rfl) rfl rfl ?_
       intro ts_ ht_; simp only [sI, sZ, sS] at ht_; subst ht_
       refine sq_take (.string x.2.t) BKt.out rfl (fun w'_ hS_ => ex_get tk_s9 g 0 (.string x.2.t) (TC x.2) hS_.blk ((yv_pre (a := 3) rfl 0 (by decide)).trans rfl) _ rfl rfl) rfl rfl ?_
       intro ts_ ht_; simp only [sI, sZ, sS] at ht_; subst ht_
       refine sq_pure (.int .i64 (x.2.t.size : Int)) rfl (fun w'_ => by go_simp) rfl rfl ?_
       intro ts_ ht_; simp only [sI, sZ, sS] at ht_; subst ht_
       refine sq_pure (.bool false) rfl (fun w'_ => by go_simp) rfl rfl ?_
       intro ts_ ht_; simp only [sI, sZ, sS] at ht_; subst ht_
       refine sq_pure (.bool false) rfl (fun w'_ => by go_simp) rfl rfl ?_
       intro ts_ ht_; simp only [sI, sZ, sS] at ht_; subst ht_
       refine sq_end ?_
       go_wp2_with fail
       (first | go_end0 | refine bodyPost_ret (results_none rfl _ _ _) rfl ?_)
       have RES : restR L0 s0 = x.2 := by unfold restR; rw [HR0.out, ← HRX.out, if_pos XN.out]; exact if_neg (fun h => by have h1_ := CA.out; have h2_ := h.2; dsimp only at h2_; omega)
       rw [RES]
       exact ⟨rfl, BKt.out, HLt.out⟩
     ·
      have cea : (x.2.e == 0) = false := beq_eq_false_iff_ne.mpr ce
      have CE := hid ce
      clear ce
      have k1 := True.intro
      go_wp2_with (first
       | ((with_reducible refine gate_d (N := 5) rfl ?_); refine ag_fix (.pointer (some ⟨g, 2, none⟩)) (ex_field 40 2 (.pointer (some ⟨g, 0, none⟩)) (.pointer (some ⟨g, 2, none⟩)) (tk_fa2 g) _ rfl rfl) rfl ?_)
       | ((with_reducible refine gate_d (N := 6) rfl ?_); refine ag_fix (.int .i64 s.e) (ex_get tk_s32 g 2 (.int .i64 s.e) (TC s) BK.out.blk ((yv_pre (a := 3) rfl 2 (by decide)).trans rfl) _ rfl rfl) rfl ?_)
       | ((with_reducible refine gate_d (N := 8) rfl ?_); obtain ⟨gl, hgl⟩ : ∃ g_, wr.heap.size = g_ := ⟨_, rfl⟩; refine ag_litn (e := 9) 2 endsV gl hgl rfl _ rfl (fun w_ => by (try simp only [List.map_toArray, List.map_cons, List.map_nil]); kernel_rfl) ?_; intro w2 hb_ hB_ hs_; have BK2 := hid (BK.out.move (hb_.block g (by have := BK.out.blk.lt; omega))); have OM2 := hid (OM.out.move (hb_.block b (by have := OM.out.lt; omega))); have HL2 := hid (HL.out.trans (Tw.of_below (hb_.mono (show wr.heap.size ≤ gl by omega)) g b) HL.out.size); have BKl := hid hB_; clear hb_ hB_ hs_ hgl)
       | ((with_reducible refine gate_d (N := 11) rfl ?_); refine ag_fix (.pointer (some ⟨g, 79, none⟩)) (ex_field 40 5 (.pointer (some ⟨g, 0, none⟩)) (.pointer (some ⟨g, 79, none⟩)) (tk_fa5 g) _ rfl rfl) rfl ?_)
       | ((with_reducible refine gate_d (N := 12) rfl ?_); refine ag_fix (.map (some b)) (ex_get tk_s37 g 79 (.map (some b)) (TC s) BK2.out.blk ((yv_cell (a := 3) (n := 64) rfl BK2.out.len 12 79 (by decide)).trans (by show some s.le = _; rw [HLE.out])) _ rfl rfl) rfl ?_)
       | ((with_reducible refine gate_d (N := 13) rfl ?_); refine ag_fix (.int .i64 (L.length : Int)) (ex_mlen OM2.out _ rfl rfl) rfl ?_)
       | (go_at_call 14; clear k1; refine (CC.out _ _ BK2.out (SLT.out _ _ BKl.out)).mono ?_; rintro e_ w4 ⟨rfl, hB_, hx_⟩; have OM4 := hid (OM2.out.move (hx_.block b OM2.out.lt KB.out)); have HL4 := hid (HL2.out.trans (Tw.of_bex hx_ b) HL2.out.size); have BK4 := hid hB_; clear hB_ hx_))
      (try simp only [Act.put, sI, sZ, sS])
      refine sq_region (fun w'_ => RB w'_ g x.2) [] [(0, 2), (1, 2), (2, 2), (3, 1), (4, 2), (5, 2), (6, 2), (7, 2), (8, 2), (9, 2), (10, 2), (11, 2), (12, 2), (13, 2), (14, 2), (15, 2), (16, 2)] (by kernel_rfl) (by kernel_rfl) (by kernel_rfl) rfl ?_
      intro wt hb_
      have BKt := hid (BK4.out.move (hb_.block g BK4.out.blk.lt))
      have HLt := hid (HL4.out.trans (Tw.of_below hb_ g b) HL4.out.size)
      clear hb_
      refine sq_pure (.pointer (some ⟨g, 0, none⟩)) rfl (fun w'_ => ex_mv (.tmp 0) (.inl rfl) _ rfl) rfl rfl ?_
      intro ts_ ht_; simp only [sI, sZ, sS] at ht_; subst ht_
      refine sq_pure (.pointer (some ⟨g, 0, none⟩)) rfl (fun w'_ => by go_simp) rfl rfl ?_
      intro ts_ ht_; simp only [sI, sZ, sS] at ht_; subst ht_
      refine sq_pure (.pointer (some ⟨g, 2, none⟩)) rfl (fun w'_ => ex_field 40 2 (.pointer (some ⟨g, 0, none⟩)) (.pointer (some ⟨g, 2, none⟩)) (tk_fa2 g) _ rfl rfl) rfl rfl ?_
      intro ts_ ht_; simp only [sI, sZ, sS] at ht_; subst ht_
      refine sq_take (.int .i64 x.2.e) BKt.out rfl (fun w'_ hS_ => ex_get tk_s32 g 2 (.int .i64 x.2.e) (TC x.2) hS_.blk ((yv_pre (a := 3) rfl 2 (by decide)).trans rfl) _ rfl rfl) rfl rfl ?_
      intro ts_ ht_; simp only [sI, sZ, sS] at ht_; subst ht_
      refine sq_pure (.bool false) rfl (fun w'_ => by go_simp) rfl rfl ?_
      intro ts_ ht_; simp only [sI, sZ, sS] at ht_; subst ht_
      refine sq_pure (.bool false) rfl (fun w'_ => by go_simp) rfl rfl ?_
      intro ts_ ht_; simp only [sI, sZ, sS] at ht_; subst ht_
      refine sq_not 5 false rfl rfl rfl rfl ?_
      intro ts_ ht_; simp only [sI, sZ, sS] at ht_; subst ht_
      refine sq_not 5 false rfl rfl rfl rfl ?_
      intro ts_ ht_; simp only [sI, sZ, sS] at ht_; subst ht_
      refine sq_not 5 false rfl rfl rfl rfl ?_
      intro ts_ ht_; simp only [sI, sZ, sS] at ht_; subst ht_
      refine sq_not 5 false rfl rfl rfl rfl ?_
      intro ts_ ht_; simp only [sI, sZ, sS] at ht_; subst ht_
      refine sq_not 5 false rfl rfl rfl rfl ?_
      intro ts_ ht_; simp only [sI, sZ, sS] at ht_; subst ht_
      refine sq_not 5 false rfl rfl rfl rfl ?_
      intro ts_ ht_; simp only [sI, sZ, sS] at ht_; subst ht_
      refine sq_not 5 false rfl rfl rfl rfl ?_
      intro ts_ ht_; simp only [sI, sZ, sS] at ht_; subst ht_
      refine sq_not 5 false rfl rfl rfl rfl ?_
      intro ts_ ht_; simp only [sI, sZ, sS] at ht_; subst ht_
      refine sq_not 5 false rfl rfl rfl rfl ?_
      intro ts_ ht_; simp only [sI, sZ, sS] at ht_; subst ht_
      refine sq_not 5 false rfl rfl rfl rfl ?_
      intro ts_ ht_; simp only [sI, sZ, sS] at ht_; subst ht_
      refine sq_pure (.bool false) rfl (fun w'_ => by go_simp) rfl rfl ?_
      intro ts_ ht_; simp only [sI, sZ, sS] at ht_; subst ht_
      refine sq_end ?_
      go_wp2_with fail
      (first | go_end0 | refine bodyPost_ret (results_none rfl _ _ _) rfl ?_)
      have RES : restR L0 s0 = x.2 := by unfold restR; rw [HR0.out, ← HRX.out, if_pos XN.out]; exact if_neg (fun h => CE.out h.1)
      rw [RES]
      exact ⟨rfl, BKt.out, HLt.out⟩
    ·
     have cxa : (x.1 == 0) = false := beq_eq_false_iff_ne.mpr cx
     have XE := hid (show x.2.e = 0 from by by_cases h : x.2.e = 0; exact h; exact absurd (XZ.out h) cx)
     have cea : (x.2.e == 0) = true := beq_iff_eq.mpr XE.out
     have XN := hid cx
     clear cx
     have OPT := hid (show ∀ w2 : World, RB w2 g x.2 → OMap w2 b L → Calls Try.prog 28 #[.pointer (some ⟨g, 0, none⟩)] w2 fun e w' => e = .returned (.tuple #[]) ∧ RB w' g (optionR L x.2).1 ∧ OMap w' b (optionR L x.2).2 ∧ Tw g b w2.heap.size w2 w' from fun w2 hB2 hO2 => option_calls x.2 L hB2 hO2 HOP.out CL.out XOK.out XE.out XLE.out)
     have k2 := True.intro
     have k1 := True.intro
     go_wp2_with (first
      | ((with_reducible refine gate_d (N := 5) rfl ?_); refine ag_fix (.pointer (some ⟨g, 2, none⟩)) (ex_field 40 2 (.pointer (some ⟨g, 0, none⟩)) (.pointer (some ⟨g, 2, none⟩)) (tk_fa2 g) _ rfl rfl) rfl ?_)
      | ((with_reducible refine gate_d (N := 6) rfl ?_); refine ag_fix (.int .i64 s.e) (ex_get tk_s32 g 2 (.int .i64 s.e) (TC s) BK.out.blk ((yv_pre (a := 3) rfl 2 (by decide)).trans rfl) _ rfl rfl) rfl ?_)
      | ((with_reducible refine gate_d (N := 8) rfl ?_); obtain ⟨gl, hgl⟩ : ∃ g_, wr.heap.size = g_ := ⟨_, rfl⟩; refine ag_litn (e := 9) 2 endsV gl hgl rfl _ rfl (fun w_ => by (try simp only [List.map_toArray, List.map_cons, List.map_nil]); kernel_rfl) ?_; intro w2 hb_ hB_ hs_; have BK2 := hid (BK.out.move (hb_.block g (by have := BK.out.blk.lt; omega))); have OM2 := hid (OM.out.move (hb_.block b (by have := OM.out.lt; omega))); have HL2 := hid (HL.out.trans (Tw.of_below (hb_.mono (show wr.heap.size ≤ gl by omega)) g b) HL.out.size); have BKl := hid hB_; clear hb_ hB_ hs_ hgl)
      | ((with_reducible refine gate_d (N := 11) rfl ?_); refine ag_fix (.pointer (some ⟨g, 79, none⟩)) (ex_field 40 5 (.pointer (some ⟨g, 0, none⟩)) (.pointer (some ⟨g, 79, none⟩)) (tk_fa5 g) _ rfl rfl) rfl ?_)
      | ((with_reducible refine gate_d (N := 12) rfl ?_); refine ag_fix (.map (some b)) (ex_get tk_s37 g 79 (.map (some b)) (TC s) BK2.out.blk ((yv_cell (a := 3) (n := 64) rfl BK2.out.len 12 79 (by decide)).trans (by show some s.le = _; rw [HLE.out])) _ rfl rfl) rfl ?_)
      | ((with_reducible refine gate_d (N := 13) rfl ?_); refine ag_fix (.int .i64 (L.length : Int)) (ex_mlen OM2.out _ rfl rfl) rfl ?_)
      | (go_at_call 14; clear k1; refine (CC.out _ _ BK2.out (SLT.out _ _ BKl.out)).mono ?_; rintro e_ w4 ⟨rfl, hB_, hx_⟩; have OM4 := hid (OM2.out.move (hx_.block b OM2.out.lt KB.out)); have HL4 := hid (HL2.out.trans (Tw.of_bex hx_ b) HL2.out.size); have BK4 := hid hB_; clear hB_ hx_)
      | ((with_reducible refine gate_d (N := 23) rfl ?_); refine ag_fix (.pointer (some ⟨g, 2, none⟩)) (ex_field 40 2 (.pointer (some ⟨g, 0, none⟩)) (.pointer (some ⟨g, 2, none⟩)) (tk_fa2 g) _ rfl rfl) rfl ?_)
      | ((with_reducible refine gate_d (N := 24) rfl ?_); refine ag_fix (.int .i64 x.2.e) (ex_get tk_s32 g 2 (.int .i64 x.2.e) (TC x.2) BK4.out.blk ((yv_pre (a := 3) rfl 2 (by decide)).trans rfl) _ rfl rfl) rfl ?_)
      | (go_at_call 28; clear k2; refine (OPT.out _ BK4.out OM4.out).mono ?_; rintro e_ w6 ⟨rfl, hB_, hO_, ht_⟩; have HL6 := hid (HL4.out.trans ht_ HL4.out.size); have BK6 := hid hB_; have OM6 := hid hO_; clear hB_ hO_ ht_))
     go_roundg k
     case measure => omega
     case rel => exact ⟨_, (optionR L x.2).1, (optionR L x.2).2, rfl, hid (by have h1_ := HRX.out; rw [if_neg XN.out] at h1_; exact h1_), hid (fun h => by have h1_ := optionR_len HOP.out CL.out XOK.out XE.out h; have h2_ := HN.out C0.out; omega), BK6, OM6, hid (optionR_opts _ HOP.out), hid (optionR_ok HOP.out CL.out XOK.out), hid ((optionR_le _ _).trans XLE.out), HL6⟩
  ·
   have c0a : (s.e == 0) = false := beq_eq_false_iff_ne.mpr c0
   have RES : restR L0 s0 = s := by unfold restR; rw [HR0.out, ← HR.out, restF_off c0, if_neg (fun h => c0 h.1)]
   go_wp2_with (first
    | ((with_reducible refine gate_d (N := 5) rfl ?_); refine ag_fix (.pointer (some ⟨g, 2, none⟩)) (ex_field 40 2 (.pointer (some ⟨g, 0, none⟩)) (.pointer (some ⟨g, 2, none⟩)) (tk_fa2 g) _ rfl rfl) rfl ?_)
    | ((with_reducible refine gate_d (N := 6) rfl ?_); refine ag_fix (.int .i64 s.e) (ex_get tk_s32 g 2 (.int .i64 s.e) (TC s) BK.out.blk ((yv_pre (a := 3) rfl 2 (by decide)).trans rfl) _ rfl rfl) rfl ?_))
   (try simp only [Act.put, sI, sZ, sS])
   refine sq_region (fun w'_ => RB w'_ g s) [] [(0, 2), (1, 2), (2, 2), (3, 1), (4, 2), (5, 2), (6, 2), (7, 2), (8, 2), (9, 2), (10, 2), (11, 2), (12, 2), (13, 2), (14, 2), (15, 2), (16, 2)] (by kernel_rfl) (by kernel_rfl) (by kernel_rfl) rfl ?_
   intro wt hb_
   have BKt := hid (BK.out.move (hb_.block g BK.out.blk.lt))
   have HLt := hid (HL.out.trans (Tw.of_below hb_ g b) HL.out.size)
   clear hb_
   refine sq_pure (.pointer (some ⟨g, 0, none⟩)) rfl (fun w'_ => ex_mv (.tmp 0) (.inl rfl) _ rfl) rfl rfl ?_
   intro ts_ ht_; simp only [sI, sZ, sS] at ht_; subst ht_
   refine sq_pure (.pointer (some ⟨g, 0, none⟩)) rfl (fun w'_ => by go_simp) rfl rfl ?_
   intro ts_ ht_; simp only [sI, sZ, sS] at ht_; subst ht_
   refine sq_pure (.pointer (some ⟨g, 2, none⟩)) rfl (fun w'_ => ex_field 40 2 (.pointer (some ⟨g, 0, none⟩)) (.pointer (some ⟨g, 2, none⟩)) (tk_fa2 g) _ rfl rfl) rfl rfl ?_
   intro ts_ ht_; simp only [sI, sZ, sS] at ht_; subst ht_
   refine sq_take (.int .i64 s.e) BKt.out rfl (fun w'_ hS_ => ex_get tk_s32 g 2 (.int .i64 s.e) (TC s) hS_.blk ((yv_pre (a := 3) rfl 2 (by decide)).trans rfl) _ rfl rfl) rfl rfl ?_
   intro ts_ ht_; simp only [sI, sZ, sS] at ht_; subst ht_
   refine sq_pure (.bool false) rfl (fun w'_ => by go_simp) rfl rfl ?_
   intro ts_ ht_; simp only [sI, sZ, sS] at ht_; subst ht_
   refine sq_pure (.bool false) rfl (fun w'_ => by go_simp) rfl rfl ?_
   intro ts_ ht_; simp only [sI, sZ, sS] at ht_; subst ht_
   refine sq_not 5 false rfl rfl rfl rfl ?_
   intro ts_ ht_; simp only [sI, sZ, sS] at ht_; subst ht_
   refine sq_not 5 false rfl rfl rfl rfl ?_
   intro ts_ ht_; simp only [sI, sZ, sS] at ht_; subst ht_
   refine sq_not 5 false rfl rfl rfl rfl ?_
   intro ts_ ht_; simp only [sI, sZ, sS] at ht_; subst ht_
   refine sq_not 5 false rfl rfl rfl rfl ?_
   intro ts_ ht_; simp only [sI, sZ, sS] at ht_; subst ht_
   refine sq_not 5 false rfl rfl rfl rfl ?_
   intro ts_ ht_; simp only [sI, sZ, sS] at ht_; subst ht_
   refine sq_not 5 false rfl rfl rfl rfl ?_
   intro ts_ ht_; simp only [sI, sZ, sS] at ht_; subst ht_
   refine sq_not 5 false rfl rfl rfl rfl ?_
   intro ts_ ht_; simp only [sI, sZ, sS] at ht_; subst ht_
   refine sq_not 5 false rfl rfl rfl rfl ?_
   intro ts_ ht_; simp only [sI, sZ, sS] at ht_; subst ht_
   refine sq_not 5 false rfl rfl rfl rfl ?_
   intro ts_ ht_; simp only [sI, sZ, sS] at ht_; subst ht_
   refine sq_not 5 false rfl rfl rfl rfl ?_
   intro ts_ ht_; simp only [sI, sZ, sS] at ht_; subst ht_
   refine sq_pure (.bool false) rfl (fun w'_ => by go_simp) rfl rfl ?_
   intro ts_ ht_; simp only [sI, sZ, sS] at ht_; subst ht_
   refine sq_end ?_
   go_wp2_with fail
   (first | go_end0 | refine bodyPost_ret (results_none rfl _ _ _) rfl ?_)
   rw [RES]
   exact ⟨rfl, BKt.out, HLt.out⟩
end Go.Proofs.Ytaipghemddjecaa
