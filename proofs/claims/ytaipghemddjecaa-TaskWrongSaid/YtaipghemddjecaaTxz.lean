import Derived.Test.YtaipghemddjecaaTwz
namespace Go.Proofs.Ytaipghemddjecaa
open Go.RowKit
open Go.Maps (Keyed)
set_option linter.unusedVariables false
set_option linter.unusedSimpArgs false
set_option maxRecDepth 100000
def TS.wl (v : Value) (s : TS) : TS := { s with le := v }
section
variable (v : Value) (s : TS)
theorem word_wl (u : ByteArray) : wordR u (s.wl v) = (wordR u s).wl v := by unfold wordR TS.wl; dsimp only; split <;> rfl
theorem one_wl (ws : List ByteArray) : oneR ws (s.wl v) = ((oneR ws s).1, (oneR ws s).2.wl v) := by unfold oneR TS.wl; dsimp only; split <;> rfl
theorem num_wl (l m : Int) : numR l m (s.wl v) = ((numR l m s).1, (numR l m s).2.wl v) := by unfold numR TS.wl; dsimp only; split <;> rfl
theorem board_wl (rd : ByteArray → List Int × Int × Int) : boardR rd (s.wl v) = (boardR rd s).wl v := by unfold boardR TS.wl; dsimp only; (repeat' split) <;> rfl
theorem ca_wl : ∀ (d fr : Nat) (any : Bool) (s : TS), caF d fr any (s.wl v) = (caF d fr any s).wl v
  | 0, _, _, _ => rfl
  | d + 1, fr, any, s => by
    rw [caF, caF]
    rw [show oneZ (s.wl v).t (s.wl v).a (caW fr any) = oneZ s.t s.a (caW fr any) from rfl]
    generalize oneZ s.t s.a (caW fr any) = z
    by_cases h : z.2.2 = 0
    · rw [if_pos h, if_pos h]
      by_cases h2 : z.2.1 = 4 - (fr : Int)
      · rw [if_pos h2, if_pos h2]; rfl
      · rw [if_neg h2, if_neg h2]
        exact ca_wl d (fr + z.2.1.toNat + 1) true { s with a := z.1, e := 0, ca := Go.bits .or .i64 s.ca (2 ^ (fr + z.2.1.toNat)) }
    · rw [if_neg h, if_neg h]; rfl
theorem castle_wl : castleR (s.wl v) = (castleR s).wl v := by
  unfold castleR
  by_cases h : s.e = 0
  · rw [if_pos h, if_pos (show (s.wl v).e = 0 from h)]; exact ca_wl v 5 0 false s
  · rw [if_neg h, if_neg (show ¬ (s.wl v).e = 0 from h)]
theorem sq_wl : sqR (s.wl v) = (sqR s).wl v := by unfold sqR TS.wl; dsimp only; split <;> rfl
theorem diag_wl : diagR (s.wl v) = (diagR s).wl v := by
  unfold diagR
  rw [word_wl, one_wl]
  dsimp only
  rw [board_wl, board_wl]
  split <;> rfl
theorem stipS_wl : stipS (s.wl v) = (stipS s).wl v := by unfold stipS TS.wl; dsimp only; split <;> rfl
theorem stip_wl : stipR (s.wl v) = (stipR s).wl v := by unfold stipR; rw [word_wl, stipS_wl, word_wl]
theorem opt_wl (i : Nat) : optR i (s.wl v) = (optR i s).wl v := by
  unfold optR
  split
  · rw [word_wl, castle_wl]
  · rw [word_wl, sq_wl]
  · unfold maxR; rw [word_wl, num_wl]; rfl
  · unfold retroR; rw [word_wl, num_wl]; rfl
  · rfl
  · unfold sideR; rw [one_wl]; rfl
  · rfl
theorem option_wl (L : List Nat) : optionR L (s.wl v) = ((optionR L s).1.wl v, (optionR L s).2) := by
  unfold optionR
  rw [one_wl]
  dsimp only
  rw [opt_wl, word_wl]
  by_cases h : (oneR (L.map optN) s).2.e = 0
  · rw [if_pos h, if_pos (show ((oneR (L.map optN) s).2.wl v).e = 0 from h)]
  · rw [if_neg h, if_neg (show ¬ ((oneR (L.map optN) s).2.wl v).e = 0 from h)]
theorem restF_wl : ∀ (d : Nat) (L : List Nat) (s : TS), restF d L (s.wl v) = ((restF d L s).1.wl v, (restF d L s).2)
  | 0, _, _ => rfl
  | d + 1, L, s => by
    rw [restF, restF]
    by_cases h : s.e = 0
    · rw [if_pos h, if_pos (show (s.wl v).e = 0 from h), one_wl]
      dsimp only
      by_cases h2 : (oneR (restW L) s).1 = 0
      · rw [if_pos h2, if_pos h2]
      · rw [if_neg h2, if_neg h2, option_wl]
        dsimp only
        exact restF_wl d _ _
    · rw [if_neg h, if_neg (show ¬ (s.wl v).e = 0 from h)]
theorem rest_wl (L : List Nat) : restR L (s.wl v) = (restR L s).wl v := by
  unfold restR
  rw [restF_wl]
  generalize restF 9 L s = y
  by_cases h : y.1.e = 0 ∧ y.1.a < y.1.t.size
  · rw [if_pos h, if_pos (show (y.1.wl v).e = 0 ∧ (y.1.wl v).a < (y.1.wl v).t.size from h)]; rfl
  · rw [if_neg h, if_neg (show ¬ ((y.1.wl v).e = 0 ∧ (y.1.wl v).a < (y.1.wl v).t.size) from h)]
end
def initS (t : ByteArray) : TS := ⟨t, 0, 0, zL, 0, 0, -1, 0, 0, 0, false, false, false, 0, -1, -1, .map none⟩
def readS (t : ByteArray) : TS := restR allO (stipR (diagR (initS t)))
def begZ (k g n : Int) (h : Bool) : Int := (i_stip_Begins.f k g n h).getD 0
theorem right_some (k g n : Int) (h : Bool) : ∃ r, i_stip_right.f k g n h = some r := by
  unfold i_stip_right.f
  (repeat' split) <;> exact ⟨_, rfl⟩
theorem beg_some (k g n : Int) (h : Bool) : i_stip_Begins.f k g n h = some (begZ k g n h) := by
  have : ∃ r, i_stip_Begins.f k g n h = some r := by
    unfold i_stip_Begins.f
    obtain ⟨r, hr⟩ := right_some k g n h
    rw [hr, Option.bind_some]
    (repeat' split) <;> exact ⟨_, rfl⟩
  obtain ⟨r, hr⟩ := this
  unfold begZ
  rw [hr]; rfl
abbrev TaskT := List Int × Int × Int × Int × Int × Int × Int × Bool × Bool × Bool × Int × Int × Int × Int
def turnZ (s : TS) : Int := if s.sd < 0 then begZ s.ki s.go s.n s.hf else s.sd
def outZ (s : TS) : TaskT := if s.e = 0 then (s.b, turnZ s, s.ca, s.ep, s.ki, s.go, s.n, s.hf, s.tr, s.se, s.mx, s.rt, (s.t.size : Int), 0) else (zL, 0, 0, 0, 0, 0, 0, false, false, false, 0, 0, s.a, s.e)
def i_task_Read.f (k : Nat) (a0 : ByteArray) : Option TaskT := if a0.size ≤ 1000 then some (outZ (readS a0)) else none
abbrev KC (s : TS) : Array Value := xv (Value.int .i8) s.b [.int .i64 s.tu, .int .i64 s.ca, .int .i64 s.ep, .int .i64 s.ki, .int .i64 s.go, .int .i64 s.n, .bool s.hf, .bool s.tr, .bool s.se, .int .i64 s.mx, .int .i64 s.rt]
def zK : TS := ⟨⟨#[]⟩, 0, 0, zL, 0, 0, 0, 0, 0, 0, false, false, false, 0, 0, 0, .map none⟩
theorem tk_aK_agg (w : World) : (isAgg 31).run Try.prog w = .ok true w := by kernel_rfl
theorem tk_aK_size (w : World) : (sizeOf 31).run Try.prog w = .ok 75 w := by kernel_rfl
theorem tk_aK_zero (w : World) : (zeroValue 31).run Try.prog w = .ok (.agg (KC zK)) w := by kernel_rfl
theorem tk_aK : AggT Try.prog 31 75 (KC zK) := ⟨tk_aK_agg, tk_aK_size, tk_aK_zero, by first | rfl | decide⟩
theorem tk_aS_agg (w : World) : (isAgg 29).run Try.prog w = .ok true w := by kernel_rfl
theorem tk_aS_size (w : World) : (sizeOf 29).run Try.prog w = .ok 4 w := by kernel_rfl
theorem tk_aS_zero (w : World) : (zeroValue 29).run Try.prog w = .ok (.agg #[.int .i64 0, .int .i64 0, .int .i64 0, .bool false]) w := by kernel_rfl
theorem tk_aS : AggT Try.prog 29 4 #[.int .i64 0, .int .i64 0, .int .i64 0, .bool false] := ⟨tk_aS_agg, tk_aS_size, tk_aS_zero, by first | rfl | decide⟩
theorem tk_fa3 (g : Nat) (w : World) : (Instr.fieldAt 40 (.pointer (some ⟨g, 0, none⟩)) 3).run Try.prog w = .ok (.pointer (some ⟨g, 3, none⟩)) w := by kernel_rfl
theorem tk_fa4 (g : Nat) (w : World) : (Instr.fieldAt 40 (.pointer (some ⟨g, 0, none⟩)) 4).run Try.prog w = .ok (.pointer (some ⟨g, 78, none⟩)) w := by kernel_rfl
theorem tk_fk0 (g : Nat) (w : World) : (Instr.fieldAt 31 (.pointer (some ⟨g, 3, none⟩)) 0).run Try.prog w = .ok (.pointer (some ⟨g, 3, none⟩)) w := by kernel_rfl
theorem tk_fk1 (g : Nat) (w : World) : (Instr.fieldAt 31 (.pointer (some ⟨g, 3, none⟩)) 1).run Try.prog w = .ok (.pointer (some ⟨g, 70, none⟩)) w := by kernel_rfl
theorem tk_fp1 (g : Nat) (w : World) : (Instr.fieldAt 27 (.pointer (some ⟨g, 3, none⟩)) 1).run Try.prog w = .ok (.pointer (some ⟨g, 67, none⟩)) w := by kernel_rfl
theorem init_ok {t : ByteArray} (h : t.size ≤ 1000) (v : Value) : ((initS t).wl v).ok := ⟨h, Int.le_refl _, by show (0 : Int) ≤ (t.size : Int); omega⟩
theorem diag_le (s : TS) : (diagR s).le = s.le := by
  have B : ∀ rd s, (boardR rd s).le = s.le := fun rd s => by unfold boardR; (repeat' split) <;> rfl
  unfold diagR
  split <;> rw [B, oneR_le, wordR_le]
theorem stipR_le (s : TS) : (stipR s).le = s.le := by
  have B : ∀ s, (stipS s).le = s.le := fun s => by unfold stipS; split <;> rfl
  unfold stipR
  rw [wordR_le, B, wordR_le]
theorem GoodF.t {f : TS → TS} (h : GoodF f) {s : TS} (hs : s.ok) : (f s).t = s.t := by
  by_cases he : s.e = 0
  · exact (h.bd he hs.a0 hs.a1).1
  · exact (h.off s he).1
theorem option_t {L : List Nat} {s : TS} (hL : Opts L) (hne : L ≠ []) (hs : s.ok) : (optionR L s).1.t = s.t := by
  have h1 := one_ok hs (names_apart hL hne)
  have h2 : (oneR (L.map optN) s).2.t = s.t := (one_good (names_apart hL hne)).toGoodF.t hs
  unfold optionR
  split
  · exact ((word_good (w := nlB) (by decide)).toGoodF.t ((optR_good _).ok h1)).trans (((optR_good _).t h1).trans h2)
  · exact h2
theorem restF_keep : ∀ (d : Nat) (L : List Nat) (s : TS), Opts L → s.ok → (restF d L s).1.ok ∧ (restF d L s).1.t = s.t
  | 0, _, s, _, hs => ⟨hs, rfl⟩
  | d + 1, L, s, hL, hs => by
    unfold restF
    split
    · rename_i he
      have h1 := one_ok hs (restW_apart L)
      have h2 : (oneR (restW L) s).2.t = s.t := (one_good (restW_apart L)).toGoodF.t hs
      split
      · exact ⟨h1, h2⟩
      · rename_i hn
        have hne : L ≠ [] := fun h => by subst h; exact hn (rest_none hs he)
        have K := restF_keep d _ _ (optionR_opts (oneR (restW L) s).2 hL) (optionR_ok hL hne h1)
        exact ⟨K.1, K.2.trans ((option_t hL hne h1).trans h2)⟩
    · exact ⟨hs, rfl⟩
theorem restR_t {L : List Nat} {s : TS} (hL : Opts L) (hs : s.ok) : (restR L s).t = s.t := by
  have K := restF_keep 9 L s hL hs
  unfold restR
  split <;> exact K.2
theorem readS_t {t : ByteArray} (ht : t.size ≤ 1000) : (readS t).t = t := by
  have h0 : (initS t).ok := init_ok ht (.map none)
  exact (restR_t (List.Sublist.refl _) (stipR_good.ok (diag_good.ok h0))).trans ((stipR_good.t (diag_good.ok h0)).trans (diag_good.t h0))
set_option maxHeartbeats 40000000 in
theorem read_calls (t : ByteArray) (ht : t.size ≤ 1000) (w : World) :
    Calls Try.prog 5 #[.string t] w fun e w' => ∃ s : TS, (s.b, s.tu, s.ca, s.ep, s.ki, s.go, s.n, s.hf, s.tr, s.se, s.mx, s.rt, s.a, s.e) = outZ (readS t) ∧ e = .returned (.tuple #[.agg (KC s), .int .i64 s.a, .int .i64 s.e]) ∧ s.b.length = 64 ∧ Below w.heap.size w w' := by
 have HL := hid (Below.refl w.heap.size w)
 have HT_ := hid ht
 obtain ⟨s, hs⟩ : ∃ s, readS t = s := ⟨_, rfl⟩
 have HSS := hid hs
 have HEQ := hid (show ∀ v : Value, restR allO (stipR (diagR ((initS t).wl v))) = s.wl v from fun v => by rw [diag_wl, stip_wl, rest_wl]; rw [← hs]; rfl)
 have ST := hid (show s.t = t from by rw [← hs]; exact readS_t ht)
 clear hs ht
 by_cases ce : s.e = 0
 ·
  have cea : (s.e != 0) = false := by rw [ce]; rfl
  have CE := hid ce
  clear ce
  by_cases cs : s.sd < 0
  ·
   have csa : decide (s.sd < 0) = true := decide_eq_true cs
   have CS := hid cs
   clear cs
   have k5 := True.intro
   have k1 := True.intro
   have k2 := True.intro
   have k3 := True.intro
   have k4 := True.intro
   go_enter Try.func5, Try.ntmps5
   go_wp2_with (first
    | ((with_reducible refine gate_d (N := 2) rfl ?_); obtain ⟨gr, hgr⟩ : ∃ g_, w.heap.size = g_ := ⟨_, rfl⟩; refine ag_alloc tk_aK gr hgr rfl rfl ?_; intro w1 hb_ hB_ hs_; have GEr := hid (show w.heap.size ≤ gr from Nat.le_of_eq hgr); have HL1 := hid (HL.out.trans (hb_.mono GEr.out)); have BKr := hid hB_; have LTr := hid (show gr < w1.heap.size from hB_.lt); clear hb_ hB_ hs_ hgr)
    | ((with_reducible refine gate_d (N := 7) rfl ?_); refine ag_build (.agg (pv zL 0 0 (-1))) _ rfl rfl ?_ ?_; (intro ww_; (try simp only [List.map_toArray, List.map_cons, List.map_nil]); kernel_rfl))
    | ((with_reducible refine gate_d (N := 8) rfl ?_); refine ag_build (.agg (KC ({ zK with ep := -1, rt := -1 } : TS))) _ rfl rfl ?_ ?_; (intro ww_; (try simp only [List.map_toArray, List.map_cons, List.map_nil]); kernel_rfl))
    | (go_at_call 6; clear k1; refine (options_calls _).mono ?_; rintro e_ w2 ⟨b, rfl, hge_, ho_, hb_⟩; have OM := hid ho_; have GEb := hid (show w.heap.size ≤ b from Nat.le_trans HL1.out.size hge_); have NErb := hid (show gr ≠ b from by have := LTr.out; omega); have HL2 := hid (HL1.out.trans (hb_.mono HL1.out.size)); replace BKr := hid (BKr.out.below hb_ BKr.out.lt); clear hge_ ho_ hb_)
    | ((with_reducible refine gate_d (N := 10) rfl ?_); refine ag_build (.agg (TC ((initS t).wl (.map (some b))))) _ rfl rfl ?_ ?_; (intro ww_; (try simp only [List.map_toArray, List.map_cons, List.map_nil]); kernel_rfl))
    | ((with_reducible refine gate_d (N := 11) rfl ?_); obtain ⟨g, hg_⟩ : ∃ g_, w2.heap.size = g_ := ⟨_, rfl⟩; refine ag_box (TC ((initS t).wl (.map (some b)))) g hg_ rfl _ rfl rfl ?_; intro w3 hb_ hB_ hs_; have GE := hid (show w.heap.size ≤ g from by have := HL2.out.size; omega); have NEr := hid (show gr ≠ g from by have := BKr.out.lt; omega); have NEb := hid (show b ≠ g from by have := OM.out.lt; omega); have BK3 := hid (RB.mk (s := ((initS t).wl (.map (some b)))) (show (zL : List Int).length = 64 from rfl) hB_); replace BKr := hid (BKr.out.below hb_ (by rw [← hg_]; exact BKr.out.lt)); replace OM := hid (OM.out.move (hb_.block b (by have := OM.out.lt; omega))); have HL3 := hid (HL2.out.trans (hb_.mono GE.out)); clear hb_ hB_ hs_ hg_)
    | (go_at_call 7; clear k2; refine (diag_calls _ BK3.out (init_ok HT_.out _)).mono ?_; rintro e_ w4 ⟨rfl, hB_, hx_⟩; replace OM := hid (OM.out.move (hx_.block b OM.out.lt NEb.out)); replace BKr := hid (BKr.out.bex hx_ BKr.out.lt NEr.out); have HL4 := hid (below_bex HL3.out hx_ HL3.out.size GE.out); have BK4 := hid hB_; clear hB_ hx_)
    | (go_at_call 8; clear k3; refine (stipu_calls _ BK4.out (diag_good.ok (init_ok HT_.out _))).mono ?_; rintro e_ w5 ⟨rfl, hB_, hx_⟩; replace OM := hid (OM.out.move (hx_.block b OM.out.lt NEb.out)); replace BKr := hid (BKr.out.bex hx_ BKr.out.lt NEr.out); have HL5 := hid (below_bex HL4.out hx_ HL4.out.size GE.out); have BK5 := hid hB_; clear hB_ hx_)
    | (go_at_call 9; clear k4; refine (rest_calls _ allO BK5.out OM.out (List.Sublist.refl _) (stipR_good.ok (diag_good.ok (init_ok HT_.out _))) ((stipR_le _).trans (diag_le _))).mono ?_; rintro e_ w6 ⟨rfl, hB_, ht_⟩; rw [HEQ.out] at hB_; replace BKr := hid (show Blk w6 gr 31 (KC zK) from (ht_.block gr BKr.out.lt NEr.out NErb.out).trans BKr.out); have HL6 := hid (HL5.out.trans (ht_.below GE.out GEb.out HL5.out.size)); have BK6 := hid hB_; clear hB_ ht_)
    | ((with_reducible refine gate_d (N := 20) rfl ?_); refine ag_fix (.pointer (some ⟨g, 2, none⟩)) (ex_field 40 2 (.pointer (some ⟨g, 0, none⟩)) (.pointer (some ⟨g, 2, none⟩)) (tk_fa2 g) _ rfl rfl) rfl ?_)
    | ((with_reducible refine gate_d (N := 21) rfl ?_); refine ag_fix (.int .i64 s.e) (ex_get tk_s32 g 2 (.int .i64 s.e) (TC (s.wl (.map (some b)))) BK6.out.blk ((yv_pre (a := 3) rfl 2 (by decide)).trans rfl) _ rfl rfl) rfl ?_)
    | ((with_reducible refine gate_d (N := 35) rfl ?_); refine ag_fix (.pointer (some ⟨g, 78, none⟩)) (ex_field 40 4 (.pointer (some ⟨g, 0, none⟩)) (.pointer (some ⟨g, 78, none⟩)) (tk_fa4 g) _ rfl rfl) rfl ?_)
    | ((with_reducible refine gate_d (N := 36) rfl ?_); refine ag_fix (.int .i64 s.sd) (ex_get tk_s3 g 78 (.int .i64 s.sd) (TC (s.wl (.map (some b)))) BK6.out.blk ((yv_cell (a := 3) (n := 64) rfl BK6.out.len 11 78 (by decide)).trans rfl) _ rfl rfl) rfl ?_)
    | ((with_reducible refine gate_d (N := 38) rfl ?_); refine ag_fix (.pointer (some ⟨g, 3, none⟩)) (ex_field 40 3 (.pointer (some ⟨g, 0, none⟩)) (.pointer (some ⟨g, 3, none⟩)) (tk_fa3 g) _ rfl rfl) rfl ?_)
    | ((with_reducible refine gate_d (N := 39) rfl ?_); refine ag_fix (.pointer (some ⟨g, 3, none⟩)) (ex_field 31 0 (.pointer (some ⟨g, 3, none⟩)) (.pointer (some ⟨g, 3, none⟩)) (tk_fk0 g) _ rfl rfl) rfl ?_)
    | ((with_reducible refine gate_d (N := 40) rfl ?_); refine ag_fix (.pointer (some ⟨g, 67, none⟩)) (ex_field 27 1 (.pointer (some ⟨g, 3, none⟩)) (.pointer (some ⟨g, 67, none⟩)) (tk_fp1 g) _ rfl rfl) rfl ?_)
    | ((with_reducible refine gate_s (t := 3) (p := 40) rfl ?_); refine ag_set tk_s3 g 67 (.int .i64 s.sd) (TC (s.wl (.map (some b)))) (TC ({ s.wl (.map (some b)) with tu := s.sd } : TS)) BK6.out.blk (yv_lt (a := 3) (n := 64) (c := 13) rfl BK6.out.len rfl (m := 67) (by decide)) rfl rfl ((yv_setc (a := 3) (n := 64) rfl BK6.out.len 0 67 (by decide) _).trans rfl) rfl _ _ rfl rfl rfl ?_; intro w7 ho_ hB_; have HL7 := hid (ho_.below HL6.out GE.out); have BK7 := hid (RB.mk (s := ({ s.wl (.map (some b)) with tu := s.sd } : TS)) BK6.out.len hB_); replace BKr := hid (BKr.out.off ho_ NEr.out); clear ho_ hB_)
    | ((with_reducible refine gate_d (N := 43) rfl ?_); refine ag_fix (.pointer (some ⟨g, 78, none⟩)) (ex_field 40 4 (.pointer (some ⟨g, 0, none⟩)) (.pointer (some ⟨g, 78, none⟩)) (tk_fa4 g) _ rfl rfl) rfl ?_)
    | ((with_reducible refine gate_d (N := 44) rfl ?_); refine ag_fix (.int .i64 s.sd) (ex_get tk_s3 g 78 (.int .i64 s.sd) (TC ({ s.wl (.map (some b)) with tu := s.sd } : TS)) BK7.out.blk ((yv_cell (a := 3) (n := 64) rfl BK7.out.len 11 78 (by decide)).trans rfl) _ rfl rfl) rfl ?_)
    | ((with_reducible refine gate_d (N := 49) rfl ?_); refine ag_fix (.pointer (some ⟨g, 3, none⟩)) (ex_field 40 3 (.pointer (some ⟨g, 0, none⟩)) (.pointer (some ⟨g, 3, none⟩)) (tk_fa3 g) _ rfl rfl) rfl ?_)
    | ((with_reducible refine gate_d (N := 50) rfl ?_); refine ag_fix (.pointer (some ⟨g, 70, none⟩)) (ex_field 31 1 (.pointer (some ⟨g, 3, none⟩)) (.pointer (some ⟨g, 70, none⟩)) (tk_fk1 g) _ rfl rfl) rfl ?_)
    | ((with_reducible refine gate_d (N := 51) rfl ?_); refine ag_fix (.agg #[.int .i64 s.ki, .int .i64 s.go, .int .i64 s.n, .bool s.hf]) (ex_load tk_aS g 70 (TC ({ s.wl (.map (some b)) with tu := s.sd } : TS)) #[.int .i64 s.ki, .int .i64 s.go, .int .i64 s.n, .bool s.hf] BK7.out.blk (yv_le (a := 3) (n := 64) (c := 13) rfl BK7.out.len rfl (m := 74) (by decide)) ((yv_exs (a := 3) (n := 64) rfl BK7.out.len 3 70 4 (by decide)).trans rfl) _ rfl rfl) rfl ?_)
    | (go_at_call 10; clear k5; refine (i_stip_Begins.calls s.ki s.go s.n s.hf (begZ s.ki s.go s.n s.hf) _ (beg_some _ _ _ _)).mono ?_; rintro e_ w8 ⟨rfl, hb_⟩; have BK8 := hid (BK7.out.move (hb_.block g BK7.out.blk.lt)); replace BKr := hid (BKr.out.below hb_ BKr.out.lt); have HL8 := hid (HL7.out.trans (hb_.mono HL7.out.size)); clear hb_)
    | ((with_reducible refine gate_d (N := 54) rfl ?_); refine ag_fix (.pointer (some ⟨g, 3, none⟩)) (ex_field 40 3 (.pointer (some ⟨g, 0, none⟩)) (.pointer (some ⟨g, 3, none⟩)) (tk_fa3 g) _ rfl rfl) rfl ?_)
    | ((with_reducible refine gate_d (N := 55) rfl ?_); refine ag_fix (.pointer (some ⟨g, 3, none⟩)) (ex_field 31 0 (.pointer (some ⟨g, 3, none⟩)) (.pointer (some ⟨g, 3, none⟩)) (tk_fk0 g) _ rfl rfl) rfl ?_)
    | ((with_reducible refine gate_d (N := 56) rfl ?_); refine ag_fix (.pointer (some ⟨g, 67, none⟩)) (ex_field 27 1 (.pointer (some ⟨g, 3, none⟩)) (.pointer (some ⟨g, 67, none⟩)) (tk_fp1 g) _ rfl rfl) rfl ?_)
    | ((with_reducible refine gate_s (t := 3) (p := 56) rfl ?_); refine ag_set tk_s3 g 67 (.int .i64 (begZ s.ki s.go s.n s.hf)) (TC ({ s.wl (.map (some b)) with tu := s.sd } : TS)) (TC ({ s.wl (.map (some b)) with tu := begZ s.ki s.go s.n s.hf } : TS)) BK8.out.blk (yv_lt (a := 3) (n := 64) (c := 13) rfl BK8.out.len rfl (m := 67) (by decide)) rfl rfl ((yv_setc (a := 3) (n := 64) rfl BK8.out.len 0 67 (by decide) _).trans rfl) rfl _ _ rfl rfl rfl ?_; intro w9 ho_ hB_; have HL9 := hid (ho_.below HL8.out GE.out); have BK9 := hid (RB.mk (s := ({ s.wl (.map (some b)) with tu := begZ s.ki s.go s.n s.hf } : TS)) BK8.out.len hB_); replace BKr := hid (BKr.out.off ho_ NEr.out); clear ho_ hB_)
    | ((with_reducible refine gate_d (N := 59) rfl ?_); refine ag_fix (.pointer (some ⟨g, 3, none⟩)) (ex_field 40 3 (.pointer (some ⟨g, 0, none⟩)) (.pointer (some ⟨g, 3, none⟩)) (tk_fa3 g) _ rfl rfl) rfl ?_)
    | ((with_reducible refine gate_d (N := 60) rfl ?_); refine ag_fix (.agg (KC ({ s.wl (.map (some b)) with tu := begZ s.ki s.go s.n s.hf } : TS))) (ex_load tk_aK g 3 (TC ({ s.wl (.map (some b)) with tu := begZ s.ki s.go s.n s.hf } : TS)) (KC ({ s.wl (.map (some b)) with tu := begZ s.ki s.go s.n s.hf } : TS)) BK9.out.blk (yv_le (a := 3) (n := 64) (c := 13) rfl BK9.out.len rfl (m := 78) (by decide)) ((yv_ex (a := 3) (n := 64) (c := 11) (m := 78) rfl BK9.out.len (by simp) (by decide)).trans rfl) _ rfl rfl) rfl ?_)
    | ((with_reducible refine gate_s (t := 31) (p := 2) rfl ?_); refine ag_store tk_aK gr 0 (KC zK) (KC ({ s.wl (.map (some b)) with tu := begZ s.ki s.go s.n s.hf } : TS)) (KC ({ s.wl (.map (some b)) with tu := begZ s.ki s.go s.n s.hf } : TS)) BKr.out (by rw [show KC ({ s.wl (.map (some b)) with tu := begZ s.ki s.go s.n s.hf } : TS) = xv (Value.int .i8) (({ s.wl (.map (some b)) with tu := begZ s.ki s.go s.n s.hf } : TS)).b _ from rfl, xv_size, show (({ s.wl (.map (some b)) with tu := begZ s.ki s.go s.n s.hf } : TS)).b.length = 64 from BK9.out.len]; rfl) (xv_le (show zK.b.length = 64 from rfl) 75 rfl) (xv_one (fun _ => rfl) (by intro v_ hv_; simp at hv_; rcases hv_ with rfl | rfl | rfl | rfl | rfl | rfl | rfl | rfl | rfl | rfl | rfl <;> rfl)) (xv_put (show zK.b.length = 64 from rfl) (show (({ s.wl (.map (some b)) with tu := begZ s.ki s.go s.n s.hf } : TS)).b.length = 64 from BK9.out.len) rfl) rfl _ _ rfl rfl rfl ?_; intro w10 ho_ hB_; have HL10 := hid (ho_.below HL9.out GEr.out); have BKs := hid hB_; clear ho_ hB_))
   refine bodyPost_ret (v := .tuple #[.agg (KC ({ s.wl (.map (some b)) with tu := begZ s.ki s.go s.n s.hf } : TS)), .int .i64 (t.size : Int), .int .i64 0]) (res_ctt tk_aK rfl _ gr (KC ({ s.wl (.map (some b)) with tu := begZ s.ki s.go s.n s.hf } : TS)) (.int .i64 (t.size : Int)) (.int .i64 0) BKs.out (by rw [show KC ({ s.wl (.map (some b)) with tu := begZ s.ki s.go s.n s.hf } : TS) = xv (Value.int .i8) (({ s.wl (.map (some b)) with tu := begZ s.ki s.go s.n s.hf } : TS)).b _ from rfl, xv_size, show (({ s.wl (.map (some b)) with tu := begZ s.ki s.go s.n s.hf } : TS)).b.length = 64 from BK9.out.len]; rfl) rfl rfl rfl) rfl ?_
   exact ⟨{ s with tu := begZ s.ki s.go s.n s.hf, a := (t.size : Int), e := 0 }, by rw [HSS.out]; unfold outZ turnZ; rw [if_pos CE.out, if_pos (by have h1_ := CS.out; omega), ST.out], rfl, BK9.out.len, HL10.out⟩
  ·
   have csa : decide (s.sd < 0) = false := decide_eq_false cs
   have CS := hid cs
   clear cs
   have k1 := True.intro
   have k2 := True.intro
   have k3 := True.intro
   have k4 := True.intro
   go_enter Try.func5, Try.ntmps5
   go_wp2_with (first
    | ((with_reducible refine gate_d (N := 2) rfl ?_); obtain ⟨gr, hgr⟩ : ∃ g_, w.heap.size = g_ := ⟨_, rfl⟩; refine ag_alloc tk_aK gr hgr rfl rfl ?_; intro w1 hb_ hB_ hs_; have GEr := hid (show w.heap.size ≤ gr from Nat.le_of_eq hgr); have HL1 := hid (HL.out.trans (hb_.mono GEr.out)); have BKr := hid hB_; have LTr := hid (show gr < w1.heap.size from hB_.lt); clear hb_ hB_ hs_ hgr)
    | ((with_reducible refine gate_d (N := 7) rfl ?_); refine ag_build (.agg (pv zL 0 0 (-1))) _ rfl rfl ?_ ?_; (intro ww_; (try simp only [List.map_toArray, List.map_cons, List.map_nil]); kernel_rfl))
    | ((with_reducible refine gate_d (N := 8) rfl ?_); refine ag_build (.agg (KC ({ zK with ep := -1, rt := -1 } : TS))) _ rfl rfl ?_ ?_; (intro ww_; (try simp only [List.map_toArray, List.map_cons, List.map_nil]); kernel_rfl))
    | (go_at_call 6; clear k1; refine (options_calls _).mono ?_; rintro e_ w2 ⟨b, rfl, hge_, ho_, hb_⟩; have OM := hid ho_; have GEb := hid (show w.heap.size ≤ b from Nat.le_trans HL1.out.size hge_); have NErb := hid (show gr ≠ b from by have := LTr.out; omega); have HL2 := hid (HL1.out.trans (hb_.mono HL1.out.size)); replace BKr := hid (BKr.out.below hb_ BKr.out.lt); clear hge_ ho_ hb_)
    | ((with_reducible refine gate_d (N := 10) rfl ?_); refine ag_build (.agg (TC ((initS t).wl (.map (some b))))) _ rfl rfl ?_ ?_; (intro ww_; (try simp only [List.map_toArray, List.map_cons, List.map_nil]); kernel_rfl))
    | ((with_reducible refine gate_d (N := 11) rfl ?_); obtain ⟨g, hg_⟩ : ∃ g_, w2.heap.size = g_ := ⟨_, rfl⟩; refine ag_box (TC ((initS t).wl (.map (some b)))) g hg_ rfl _ rfl rfl ?_; intro w3 hb_ hB_ hs_; have GE := hid (show w.heap.size ≤ g from by have := HL2.out.size; omega); have NEr := hid (show gr ≠ g from by have := BKr.out.lt; omega); have NEb := hid (show b ≠ g from by have := OM.out.lt; omega); have BK3 := hid (RB.mk (s := ((initS t).wl (.map (some b)))) (show (zL : List Int).length = 64 from rfl) hB_); replace BKr := hid (BKr.out.below hb_ (by rw [← hg_]; exact BKr.out.lt)); replace OM := hid (OM.out.move (hb_.block b (by have := OM.out.lt; omega))); have HL3 := hid (HL2.out.trans (hb_.mono GE.out)); clear hb_ hB_ hs_ hg_)
    | (go_at_call 7; clear k2; refine (diag_calls _ BK3.out (init_ok HT_.out _)).mono ?_; rintro e_ w4 ⟨rfl, hB_, hx_⟩; replace OM := hid (OM.out.move (hx_.block b OM.out.lt NEb.out)); replace BKr := hid (BKr.out.bex hx_ BKr.out.lt NEr.out); have HL4 := hid (below_bex HL3.out hx_ HL3.out.size GE.out); have BK4 := hid hB_; clear hB_ hx_)
    | (go_at_call 8; clear k3; refine (stipu_calls _ BK4.out (diag_good.ok (init_ok HT_.out _))).mono ?_; rintro e_ w5 ⟨rfl, hB_, hx_⟩; replace OM := hid (OM.out.move (hx_.block b OM.out.lt NEb.out)); replace BKr := hid (BKr.out.bex hx_ BKr.out.lt NEr.out); have HL5 := hid (below_bex HL4.out hx_ HL4.out.size GE.out); have BK5 := hid hB_; clear hB_ hx_)
    | (go_at_call 9; clear k4; refine (rest_calls _ allO BK5.out OM.out (List.Sublist.refl _) (stipR_good.ok (diag_good.ok (init_ok HT_.out _))) ((stipR_le _).trans (diag_le _))).mono ?_; rintro e_ w6 ⟨rfl, hB_, ht_⟩; rw [HEQ.out] at hB_; replace BKr := hid (show Blk w6 gr 31 (KC zK) from (ht_.block gr BKr.out.lt NEr.out NErb.out).trans BKr.out); have HL6 := hid (HL5.out.trans (ht_.below GE.out GEb.out HL5.out.size)); have BK6 := hid hB_; clear hB_ ht_)
    | ((with_reducible refine gate_d (N := 20) rfl ?_); refine ag_fix (.pointer (some ⟨g, 2, none⟩)) (ex_field 40 2 (.pointer (some ⟨g, 0, none⟩)) (.pointer (some ⟨g, 2, none⟩)) (tk_fa2 g) _ rfl rfl) rfl ?_)
    | ((with_reducible refine gate_d (N := 21) rfl ?_); refine ag_fix (.int .i64 s.e) (ex_get tk_s32 g 2 (.int .i64 s.e) (TC (s.wl (.map (some b)))) BK6.out.blk ((yv_pre (a := 3) rfl 2 (by decide)).trans rfl) _ rfl rfl) rfl ?_)
    | ((with_reducible refine gate_d (N := 35) rfl ?_); refine ag_fix (.pointer (some ⟨g, 78, none⟩)) (ex_field 40 4 (.pointer (some ⟨g, 0, none⟩)) (.pointer (some ⟨g, 78, none⟩)) (tk_fa4 g) _ rfl rfl) rfl ?_)
    | ((with_reducible refine gate_d (N := 36) rfl ?_); refine ag_fix (.int .i64 s.sd) (ex_get tk_s3 g 78 (.int .i64 s.sd) (TC (s.wl (.map (some b)))) BK6.out.blk ((yv_cell (a := 3) (n := 64) rfl BK6.out.len 11 78 (by decide)).trans rfl) _ rfl rfl) rfl ?_)
    | ((with_reducible refine gate_d (N := 38) rfl ?_); refine ag_fix (.pointer (some ⟨g, 3, none⟩)) (ex_field 40 3 (.pointer (some ⟨g, 0, none⟩)) (.pointer (some ⟨g, 3, none⟩)) (tk_fa3 g) _ rfl rfl) rfl ?_)
    | ((with_reducible refine gate_d (N := 39) rfl ?_); refine ag_fix (.pointer (some ⟨g, 3, none⟩)) (ex_field 31 0 (.pointer (some ⟨g, 3, none⟩)) (.pointer (some ⟨g, 3, none⟩)) (tk_fk0 g) _ rfl rfl) rfl ?_)
    | ((with_reducible refine gate_d (N := 40) rfl ?_); refine ag_fix (.pointer (some ⟨g, 67, none⟩)) (ex_field 27 1 (.pointer (some ⟨g, 3, none⟩)) (.pointer (some ⟨g, 67, none⟩)) (tk_fp1 g) _ rfl rfl) rfl ?_)
    | ((with_reducible refine gate_s (t := 3) (p := 40) rfl ?_); refine ag_set tk_s3 g 67 (.int .i64 s.sd) (TC (s.wl (.map (some b)))) (TC ({ s.wl (.map (some b)) with tu := s.sd } : TS)) BK6.out.blk (yv_lt (a := 3) (n := 64) (c := 13) rfl BK6.out.len rfl (m := 67) (by decide)) rfl rfl ((yv_setc (a := 3) (n := 64) rfl BK6.out.len 0 67 (by decide) _).trans rfl) rfl _ _ rfl rfl rfl ?_; intro w7 ho_ hB_; have HL7 := hid (ho_.below HL6.out GE.out); have BK7 := hid (RB.mk (s := ({ s.wl (.map (some b)) with tu := s.sd } : TS)) BK6.out.len hB_); replace BKr := hid (BKr.out.off ho_ NEr.out); clear ho_ hB_)
    | ((with_reducible refine gate_d (N := 43) rfl ?_); refine ag_fix (.pointer (some ⟨g, 78, none⟩)) (ex_field 40 4 (.pointer (some ⟨g, 0, none⟩)) (.pointer (some ⟨g, 78, none⟩)) (tk_fa4 g) _ rfl rfl) rfl ?_)
    | ((with_reducible refine gate_d (N := 44) rfl ?_); refine ag_fix (.int .i64 s.sd) (ex_get tk_s3 g 78 (.int .i64 s.sd) (TC ({ s.wl (.map (some b)) with tu := s.sd } : TS)) BK7.out.blk ((yv_cell (a := 3) (n := 64) rfl BK7.out.len 11 78 (by decide)).trans rfl) _ rfl rfl) rfl ?_)
    | ((with_reducible refine gate_d (N := 59) rfl ?_); refine ag_fix (.pointer (some ⟨g, 3, none⟩)) (ex_field 40 3 (.pointer (some ⟨g, 0, none⟩)) (.pointer (some ⟨g, 3, none⟩)) (tk_fa3 g) _ rfl rfl) rfl ?_)
    | ((with_reducible refine gate_d (N := 60) rfl ?_); refine ag_fix (.agg (KC ({ s.wl (.map (some b)) with tu := s.sd } : TS))) (ex_load tk_aK g 3 (TC ({ s.wl (.map (some b)) with tu := s.sd } : TS)) (KC ({ s.wl (.map (some b)) with tu := s.sd } : TS)) BK7.out.blk (yv_le (a := 3) (n := 64) (c := 13) rfl BK7.out.len rfl (m := 78) (by decide)) ((yv_ex (a := 3) (n := 64) (c := 11) (m := 78) rfl BK7.out.len (by simp) (by decide)).trans rfl) _ rfl rfl) rfl ?_)
    | ((with_reducible refine gate_s (t := 31) (p := 2) rfl ?_); refine ag_store tk_aK gr 0 (KC zK) (KC ({ s.wl (.map (some b)) with tu := s.sd } : TS)) (KC ({ s.wl (.map (some b)) with tu := s.sd } : TS)) BKr.out (by rw [show KC ({ s.wl (.map (some b)) with tu := s.sd } : TS) = xv (Value.int .i8) (({ s.wl (.map (some b)) with tu := s.sd } : TS)).b _ from rfl, xv_size, show (({ s.wl (.map (some b)) with tu := s.sd } : TS)).b.length = 64 from BK7.out.len]; rfl) (xv_le (show zK.b.length = 64 from rfl) 75 rfl) (xv_one (fun _ => rfl) (by intro v_ hv_; simp at hv_; rcases hv_ with rfl | rfl | rfl | rfl | rfl | rfl | rfl | rfl | rfl | rfl | rfl <;> rfl)) (xv_put (show zK.b.length = 64 from rfl) (show (({ s.wl (.map (some b)) with tu := s.sd } : TS)).b.length = 64 from BK7.out.len) rfl) rfl _ _ rfl rfl rfl ?_; intro w10 ho_ hB_; have HL10 := hid (ho_.below HL7.out GEr.out); have BKs := hid hB_; clear ho_ hB_))
   refine bodyPost_ret (v := .tuple #[.agg (KC ({ s.wl (.map (some b)) with tu := s.sd } : TS)), .int .i64 (t.size : Int), .int .i64 0]) (res_ctt tk_aK rfl _ gr (KC ({ s.wl (.map (some b)) with tu := s.sd } : TS)) (.int .i64 (t.size : Int)) (.int .i64 0) BKs.out (by rw [show KC ({ s.wl (.map (some b)) with tu := s.sd } : TS) = xv (Value.int .i8) (({ s.wl (.map (some b)) with tu := s.sd } : TS)).b _ from rfl, xv_size, show (({ s.wl (.map (some b)) with tu := s.sd } : TS)).b.length = 64 from BK7.out.len]; rfl) rfl rfl rfl) rfl ?_
   exact ⟨{ s with tu := s.sd, a := (t.size : Int), e := 0 }, by rw [HSS.out]; unfold outZ turnZ; rw [if_pos CE.out, if_neg (by have h1_ := CS.out; omega), ST.out], rfl, BK7.out.len, HL10.out⟩
 ·
  have cea : (s.e != 0) = true := bne_iff_ne.mpr ce
  have CE := hid ce
  clear ce
  have k1 := True.intro
  have k2 := True.intro
  have k3 := True.intro
  have k4 := True.intro
  go_enter Try.func5, Try.ntmps5
  go_wp2_with (first
   | ((with_reducible refine gate_d (N := 2) rfl ?_); obtain ⟨gr, hgr⟩ : ∃ g_, w.heap.size = g_ := ⟨_, rfl⟩; refine ag_alloc tk_aK gr hgr rfl rfl ?_; intro w1 hb_ hB_ hs_; have GEr := hid (show w.heap.size ≤ gr from Nat.le_of_eq hgr); have HL1 := hid (HL.out.trans (hb_.mono GEr.out)); have BKr := hid hB_; have LTr := hid (show gr < w1.heap.size from hB_.lt); clear hb_ hB_ hs_ hgr)
   | ((with_reducible refine gate_d (N := 7) rfl ?_); refine ag_build (.agg (pv zL 0 0 (-1))) _ rfl rfl ?_ ?_; (intro ww_; (try simp only [List.map_toArray, List.map_cons, List.map_nil]); kernel_rfl))
   | ((with_reducible refine gate_d (N := 8) rfl ?_); refine ag_build (.agg (KC ({ zK with ep := -1, rt := -1 } : TS))) _ rfl rfl ?_ ?_; (intro ww_; (try simp only [List.map_toArray, List.map_cons, List.map_nil]); kernel_rfl))
   | (go_at_call 6; clear k1; refine (options_calls _).mono ?_; rintro e_ w2 ⟨b, rfl, hge_, ho_, hb_⟩; have OM := hid ho_; have GEb := hid (show w.heap.size ≤ b from Nat.le_trans HL1.out.size hge_); have NErb := hid (show gr ≠ b from by have := LTr.out; omega); have HL2 := hid (HL1.out.trans (hb_.mono HL1.out.size)); replace BKr := hid (BKr.out.below hb_ BKr.out.lt); clear hge_ ho_ hb_)
   | ((with_reducible refine gate_d (N := 10) rfl ?_); refine ag_build (.agg (TC ((initS t).wl (.map (some b))))) _ rfl rfl ?_ ?_; (intro ww_; (try simp only [List.map_toArray, List.map_cons, List.map_nil]); kernel_rfl))
   | ((with_reducible refine gate_d (N := 11) rfl ?_); obtain ⟨g, hg_⟩ : ∃ g_, w2.heap.size = g_ := ⟨_, rfl⟩; refine ag_box (TC ((initS t).wl (.map (some b)))) g hg_ rfl _ rfl rfl ?_; intro w3 hb_ hB_ hs_; have GE := hid (show w.heap.size ≤ g from by have := HL2.out.size; omega); have NEr := hid (show gr ≠ g from by have := BKr.out.lt; omega); have NEb := hid (show b ≠ g from by have := OM.out.lt; omega); have BK3 := hid (RB.mk (s := ((initS t).wl (.map (some b)))) (show (zL : List Int).length = 64 from rfl) hB_); replace BKr := hid (BKr.out.below hb_ (by rw [← hg_]; exact BKr.out.lt)); replace OM := hid (OM.out.move (hb_.block b (by have := OM.out.lt; omega))); have HL3 := hid (HL2.out.trans (hb_.mono GE.out)); clear hb_ hB_ hs_ hg_)
   | (go_at_call 7; clear k2; refine (diag_calls _ BK3.out (init_ok HT_.out _)).mono ?_; rintro e_ w4 ⟨rfl, hB_, hx_⟩; replace OM := hid (OM.out.move (hx_.block b OM.out.lt NEb.out)); replace BKr := hid (BKr.out.bex hx_ BKr.out.lt NEr.out); have HL4 := hid (below_bex HL3.out hx_ HL3.out.size GE.out); have BK4 := hid hB_; clear hB_ hx_)
   | (go_at_call 8; clear k3; refine (stipu_calls _ BK4.out (diag_good.ok (init_ok HT_.out _))).mono ?_; rintro e_ w5 ⟨rfl, hB_, hx_⟩; replace OM := hid (OM.out.move (hx_.block b OM.out.lt NEb.out)); replace BKr := hid (BKr.out.bex hx_ BKr.out.lt NEr.out); have HL5 := hid (below_bex HL4.out hx_ HL4.out.size GE.out); have BK5 := hid hB_; clear hB_ hx_)
   | (go_at_call 9; clear k4; refine (rest_calls _ allO BK5.out OM.out (List.Sublist.refl _) (stipR_good.ok (diag_good.ok (init_ok HT_.out _))) ((stipR_le _).trans (diag_le _))).mono ?_; rintro e_ w6 ⟨rfl, hB_, ht_⟩; rw [HEQ.out] at hB_; replace BKr := hid (show Blk w6 gr 31 (KC zK) from (ht_.block gr BKr.out.lt NEr.out NErb.out).trans BKr.out); have HL6 := hid (HL5.out.trans (ht_.below GE.out GEb.out HL5.out.size)); have BK6 := hid hB_; clear hB_ ht_)
   | ((with_reducible refine gate_d (N := 20) rfl ?_); refine ag_fix (.pointer (some ⟨g, 2, none⟩)) (ex_field 40 2 (.pointer (some ⟨g, 0, none⟩)) (.pointer (some ⟨g, 2, none⟩)) (tk_fa2 g) _ rfl rfl) rfl ?_)
   | ((with_reducible refine gate_d (N := 21) rfl ?_); refine ag_fix (.int .i64 s.e) (ex_get tk_s32 g 2 (.int .i64 s.e) (TC (s.wl (.map (some b)))) BK6.out.blk ((yv_pre (a := 3) rfl 2 (by decide)).trans rfl) _ rfl rfl) rfl ?_))
  (try simp only [Act.put, sI, sZ, sS])
  refine sq_region (fun w'_ => RB w'_ g (s.wl (.map (some b)))) [] [(0, 2), (1, 2), (2, 2), (3, 2), (4, 1), (5, 2), (6, 2), (7, 2), (8, 1), (9, 0), (10, 2), (11, 2)] (by kernel_rfl) (by kernel_rfl) (by kernel_rfl) rfl ?_
  intro w7 hb_
  have BK7 := hid (BK6.out.move (hb_.block g BK6.out.blk.lt))
  have BKr7 := hid (BKr.out.below hb_ BKr.out.lt)
  have HL7 := hid (HL6.out.trans (hb_.mono HL6.out.size))
  clear hb_
  refine sq_pure (.agg (KC zK)) rfl (fun w'_ => ex_build (.agg (KC zK)) _ rfl (by intro ww_; kernel_rfl)) rfl rfl ?_
  intro ts_ ht_; simp only [sI, sZ, sS] at ht_; subst ht_
  refine sq_pure (.pointer (some ⟨g, 0, none⟩)) rfl (fun w'_ => ex_mv (.tmp 5) (.inl rfl) _ rfl) rfl rfl ?_
  intro ts_ ht_; simp only [sI, sZ, sS] at ht_; subst ht_
  refine sq_pure (.pointer (some ⟨g, 0, none⟩)) rfl (fun w'_ => by go_simp) rfl rfl ?_
  intro ts_ ht_; simp only [sI, sZ, sS] at ht_; subst ht_
  refine sq_pure (.pointer (some ⟨g, 1, none⟩)) rfl (fun w'_ => ex_field 40 1 (.pointer (some ⟨g, 0, none⟩)) (.pointer (some ⟨g, 1, none⟩)) (tk_fa1 g) _ rfl rfl) rfl rfl ?_
  intro ts_ ht_; simp only [sI, sZ, sS] at ht_; subst ht_
  refine sq_take (.int .i64 s.a) BK7.out rfl (fun w'_ hS_ => ex_get tk_s3 g 1 (.int .i64 s.a) (TC (s.wl (.map (some b)))) hS_.blk ((yv_pre (a := 3) rfl 1 (by decide)).trans rfl) _ rfl rfl) rfl rfl ?_
  intro ts_ ht_; simp only [sI, sZ, sS] at ht_; subst ht_
  refine sq_pure (.pointer (some ⟨g, 0, none⟩)) rfl (fun w'_ => ex_mv (.tmp 5) (.inl rfl) _ rfl) rfl rfl ?_
  intro ts_ ht_; simp only [sI, sZ, sS] at ht_; subst ht_
  refine sq_pure (.pointer (some ⟨g, 0, none⟩)) rfl (fun w'_ => by go_simp) rfl rfl ?_
  intro ts_ ht_; simp only [sI, sZ, sS] at ht_; subst ht_
  refine sq_pure (.pointer (some ⟨g, 2, none⟩)) rfl (fun w'_ => ex_field 40 2 (.pointer (some ⟨g, 0, none⟩)) (.pointer (some ⟨g, 2, none⟩)) (tk_fa2 g) _ rfl rfl) rfl rfl ?_
  intro ts_ ht_; simp only [sI, sZ, sS] at ht_; subst ht_
  refine sq_take (.int .i64 s.e) BK7.out rfl (fun w'_ hS_ => ex_get tk_s32 g 2 (.int .i64 s.e) (TC (s.wl (.map (some b)))) hS_.blk ((yv_pre (a := 3) rfl 2 (by decide)).trans rfl) _ rfl rfl) rfl rfl ?_
  intro ts_ ht_; simp only [sI, sZ, sS] at ht_; subst ht_
  refine sq_act rfl (fun Q'_ hQ_ => ?_)
  refine ag_store tk_aK gr 0 (KC zK) (KC zK) (KC zK) BKr7.out (by rw [show KC zK = xv (Value.int .i8) (zK).b _ from rfl, xv_size, show (zK).b.length = 64 from rfl]; rfl) (xv_le (show zK.b.length = 64 from rfl) 75 rfl) (xv_one (fun _ => rfl) (by intro v_ hv_; simp at hv_; rcases hv_ with rfl | rfl | rfl | rfl | rfl | rfl | rfl | rfl | rfl | rfl | rfl <;> rfl)) (xv_put (show zK.b.length = 64 from rfl) (show zK.b.length = 64 from rfl) rfl) rfl _ _ rfl rfl rfl ?_
  intro w8 ho_ hB_
  have HL8 := hid (ho_.below HL7.out GEr.out)
  have BKs := hid hB_
  have BK8 := hid (BK7.out.move (ho_.block g (fun e => NEr.out e.symm)))
  clear ho_ hB_
  refine act_end ?_
  refine hQ_ _ _ (fun _ => BK8.out) ?_
  clear hQ_ Q'_
  simp only [Act.put]
  refine sq_pure (.int .i64 s.a) rfl (fun w'_ => ex_mv (.tmp 27) (.inr rfl) _ rfl) rfl rfl ?_
  intro ts_ ht_; simp only [sI, sZ, sS] at ht_; subst ht_
  refine sq_pure (.int .i64 s.e) rfl (fun w'_ => ex_mv (.tmp 31) (.inr rfl) _ rfl) rfl rfl ?_
  intro ts_ ht_; simp only [sI, sZ, sS] at ht_; subst ht_
  refine sq_end ?_
  go_wp2_with fail
  refine bodyPost_ret (v := .tuple #[.agg (KC zK), .int .i64 s.a, .int .i64 s.e]) (res_ctt tk_aK rfl _ gr (KC zK) (.int .i64 s.a) (.int .i64 s.e) BKs.out (by rw [show KC zK = xv (Value.int .i8) (zK).b _ from rfl, xv_size, show (zK).b.length = 64 from rfl]; rfl) rfl rfl rfl) rfl ?_
  exact ⟨{ zK with a := s.a, e := s.e }, by rw [HSS.out]; unfold outZ; rw [if_neg CE.out]; rfl, rfl, rfl, HL8.out⟩
set_option maxHeartbeats 4000000 in
theorem i_task_Read.calls (k : Nat) (a0 : ByteArray) (r1 : List Int) (r2 r3 r4 r5 r6 r7 : Int) (r8 r9 r10 : Bool) (r11 r12 r13 r14 : Int) (w : World) (h : i_task_Read.f k a0 = some (r1, r2, r3, r4, r5, r6, r7, r8, r9, r10, r11, r12, r13, r14)) :
    Calls Try.prog 5 #[.string a0] w fun e w' => e = .returned (.tuple #[.agg (xv (Value.int .i8) r1 [.int .i64 r2, .int .i64 r3, .int .i64 r4, .int .i64 r5, .int .i64 r6, .int .i64 r7, .bool r8, .bool r9, .bool r10, .int .i64 r11, .int .i64 r12]), .int .i64 r13, .int .i64 r14]) ∧ r1.length = 64 ∧ Below w.heap.size w w' := by
  unfold i_task_Read.f at h
  split at h
  · rename_i ht
    have h2 := Option.some.inj h
    refine (read_calls a0 ht w).mono ?_
    rintro e w' ⟨s, hs, he, hl, hb⟩
    rw [h2] at hs
    simp only [Prod.mk.injEq] at hs
    obtain ⟨rfl, rfl, rfl, rfl, rfl, rfl, rfl, rfl, rfl, rfl, rfl, rfl, rfl, rfl⟩ := hs
    exact ⟨he, hl, hb⟩
  · cases h
end Go.Proofs.Ytaipghemddjecaa
