/- The walks of the laws of package lex. -/
import Derived.Test.YtabbkeliknidgaaProg
import Derived.Test.YtabbkeliknidgaaL2w
import Derived.Test.YtabbkeliknidgaaL3w
namespace Go.Proofs.Ytabbkeliknidgaa
open Go.RowKit
set_option linter.unusedVariables false
set_option linter.unusedSimpArgs false
theorem eqS26 (d : Nat) (w : World) (x0 y0 : Int) (x1 y1 : Int) (x2 y2 : Int) : (Op.equalIn (d + 2) 26 (.agg #[.int .i64 x0, .int .i64 x1, .int .i64 x2]) (.agg #[.int .i64 y0, .int .i64 y1, .int .i64 y2])).run Try.prog w = .ok ((x0 == y0) && ((x1 == y1) && ((x2 == y2)))) w := by
  refine eqs_of Try.underlying26 (by kernel_rfl) ?_
  refine eqs_more (by rfl) (by go_simp; rfl) (by go_simp; rfl) (by go_simp) ?_
  refine eqs_more (by rfl) (by go_simp; rfl) (by go_simp; rfl) (by go_simp) ?_
  exact eqs_last (by rfl) (by go_simp; rfl) (by go_simp; rfl) (by go_simp)
theorem uT30 : Try.prog.underlying 30 = some (.array 2 3) := by kernel_rfl
theorem fv26_2 (x0_ x1_ x2_ : Value) (w : World) : (Instr.field 26 (.agg #[x0_, x1_, x2_]) 2).run Try.prog w = .ok (x2_) w := by kernel_rfl
/-! i_alfillaw14_wakes: function 9 -/
def i_alfillaw14_wakes.f (k : Nat)  : Option (Bool) := (i_lex_Number.f k (⟨#[54, 53]⟩ : ByteArray) 0 1 64).bind fun bt1186 => (if ((bt1186.1 == 1) && ((bt1186.2.1 == 0) && ((bt1186.2.2 == 2)))) = true then ((i_lex_OneOf.f k (⟨#[99, 97, 114]⟩ : ByteArray) 0 [(⟨#[99, 97, 116]⟩ : ByteArray), (⟨#[99, 111, 119]⟩ : ByteArray)]).bind fun bt1190 => (if ((bt1190.1 == 2) && ((bt1190.2.1 == 0) && ((bt1190.2.2 == 2)))) = true then (some true) else (some false))) else (some false))
set_option maxHeartbeats 40000000 in
set_option maxRecDepth 100000 in
theorem i_alfillaw14_wakes.calls (k : Nat) (r1 : Bool) (w : World) (h : i_alfillaw14_wakes.f k = some r1) :
    Calls Try.prog 9 #[] w fun e w' => e = .returned (.bool r1) ∧ Below w.heap.size w w' := by
  have HL := hid (Below.refl w.heap.size w)
  have H : ((i_lex_Number.f k (⟨#[54, 53]⟩ : ByteArray) 0 1 64).bind fun bt1186 => (if ((bt1186.1 == 1) && ((bt1186.2.1 == 0) && ((bt1186.2.2 == 2)))) = true then ((i_lex_OneOf.f k (⟨#[99, 97, 114]⟩ : ByteArray) 0 [(⟨#[99, 97, 116]⟩ : ByteArray), (⟨#[99, 111, 119]⟩ : ByteArray)]).bind fun bt1190 => (if ((bt1190.1 == 2) && ((bt1190.2.1 == 0) && ((bt1190.2.2 == 2)))) = true then (some true) else (some false))) else (some false))) = some r1 := h
  clear h
  replace H := Option.bind_eq_some_iff.mp H
  obtain ⟨⟨t1186, t1187, t1188⟩, A1193_, H⟩ := H
  replace H : (if ((t1186 == 1) && ((t1187 == 0) && ((t1188 == 2)))) = true then ((i_lex_OneOf.f k (⟨#[99, 97, 114]⟩ : ByteArray) 0 [(⟨#[99, 97, 116]⟩ : ByteArray), (⟨#[99, 111, 119]⟩ : ByteArray)]).bind fun bt1190 => (if ((bt1190.1 == 2) && ((bt1190.2.1 == 0) && ((bt1190.2.2 == 2)))) = true then (some true) else (some false))) else (some false)) = some r1 := H
  have A1193 := hid A1193_
  clear A1193_
  by_cases c1194 : ((t1186 == 1) && ((t1187 == 0) && ((t1188 == 2)))) = true
  · rw [if_pos c1194] at H
    have c1194b0 : ((t1186 == 1) && ((t1187 == 0) && ((t1188 == 2)))) = true := c1194
    have hc1194 := hid c1194
    clear c1194
    replace H := Option.bind_eq_some_iff.mp H
    obtain ⟨⟨t1190, t1191, t1192⟩, A1195_, H⟩ := H
    replace H : (if ((t1190 == 2) && ((t1191 == 0) && ((t1192 == 2)))) = true then (some true) else (some false)) = some r1 := H
    have A1195 := hid A1195_
    clear A1195_
    by_cases c1196 : ((t1190 == 2) && ((t1191 == 0) && ((t1192 == 2)))) = true
    · rw [if_pos c1196] at H
      have c1196b0 : ((t1190 == 2) && ((t1191 == 0) && ((t1192 == 2)))) = true := c1196
      have hc1196 := hid c1196
      clear c1196
      obtain rfl := Option.some.inj H
      clear H
      go_enter Try.func9, Try.ntmps9
      have k1197 := True.intro
      have k1200 := True.intro
      go_wp2_with (first
        | (go_at_call 14; clear k1197; refine (i_lex_Number.calls k (⟨#[54, 53]⟩ : ByteArray) 0 1 64 t1186 t1187 t1188 _ A1193.out).mono ?_; rintro e_ w1198 ⟨rfl, hb_⟩; replace HL := hid (HL.out.trans (hb_.mono HL.out.size)); clear hb_)
        | ((with_reducible refine gate_d (N := 2) rfl ?_); refine ag_build (.agg #[.int .i64 1, .int .i64 0, .int .i64 2]) _ rfl rfl ?_ ?_; (intro ww_; simp only [List.map_toArray, List.map_cons, List.map_nil]; kernel_rfl))
        | ((with_reducible refine gate_d (N := 3) rfl ?_); refine ag_fix (.bool true) (ex_eq .eql 26 (.agg #[.int .i64 t1186, .int .i64 t1187, .int .i64 t1188]) (.agg #[.int .i64 1, .int .i64 0, .int .i64 2]) (.bool true) (fun x_ y_ w_ => guard_any (by kernel_rfl) _ x_ y_ w_) (fun w_ => (eq_bin (fun d_ w2_ => eqS26 d_ w2_ t1186 1 t1187 0 t1188 2 ) (by decide) w_).trans (by rw [show ((t1186 == 1) && ((t1187 == 0) && ((t1188 == 2)))) = true from hc1194.out])) _ _ _ rfl rfl rfl) rfl ?_)
        | ((with_reducible refine gate_d (N := 5) rfl ?_); obtain ⟨go1189, hgo1189⟩ : ∃ g_, w1198.heap.size = g_ := ⟨_, rfl⟩; refine ag_litn (e := 9) 2 #[.string (⟨#[99, 97, 116]⟩ : ByteArray), .string (⟨#[99, 111, 119]⟩ : ByteArray)] go1189 hgo1189 rfl _ rfl (fun w_ => by (try simp only [List.map_toArray, List.map_cons, List.map_nil]); kernel_rfl) ?_; intro w1199 hb_ hB_ hs_; have GEo1189 : Hid (w.heap.size ≤ go1189) := hid (by have := HL.out.size; omega); replace HL := hid (HL.out.trans (hb_.mono GEo1189.out)); have BKo1189 := hid hB_; clear hb_ hB_ hs_ hgo1189; obtain ⟨uo1189, hu_⟩ : ∃ u_, u_ = (Value.slice (some ⟨go1189, 0, none⟩) 2 2) := ⟨_, rfl⟩; have SWo1189 : Hid (Own w1199 w.heap.size 9 (uo1189) ([(⟨#[99, 97, 116]⟩ : ByteArray), (⟨#[99, 111, 119]⟩ : ByteArray)].map Value.string)) := hid (by rw [hu_]; exact Own.lit GEo1189.out BKo1189.out rfl (by simp [maxLen])); rw [← hu_]; clear hu_ BKo1189)
        | (go_at_call 12; clear k1200; refine (i_lex_OneOf.calls k (⟨#[99, 97, 114]⟩ : ByteArray) 0 (uo1189) [(⟨#[99, 97, 116]⟩ : ByteArray), (⟨#[99, 111, 119]⟩ : ByteArray)] t1190 t1191 t1192 _ SWo1189.out.sl A1195.out).mono ?_; rintro e_ w1201 ⟨rfl, hb_⟩; replace SWo1189 := hid (SWo1189.out.below hb_); replace HL := hid (HL.out.trans (hb_.mono HL.out.size)); clear hb_)
        | ((with_reducible refine gate_d (N := 7) rfl ?_); refine ag_build (.agg #[.int .i64 2, .int .i64 0, .int .i64 2]) _ rfl rfl ?_ ?_; (intro ww_; simp only [List.map_toArray, List.map_cons, List.map_nil]; kernel_rfl))
        | ((with_reducible refine gate_d (N := 8) rfl ?_); refine ag_fix (.bool true) (ex_eq .eql 26 (.agg #[.int .i64 t1190, .int .i64 t1191, .int .i64 t1192]) (.agg #[.int .i64 2, .int .i64 0, .int .i64 2]) (.bool true) (fun x_ y_ w_ => guard_any (by kernel_rfl) _ x_ y_ w_) (fun w_ => (eq_bin (fun d_ w2_ => eqS26 d_ w2_ t1190 2 t1191 0 t1192 2 ) (by decide) w_).trans (by rw [show ((t1190 == 2) && ((t1191 == 0) && ((t1192 == 2)))) = true from hc1196.out])) _ _ _ rfl rfl rfl) rfl ?_))
      (try simp only [Act.put, List.setIfInBounds_toArray, List.set_cons_zero, List.set_cons_succ])
      go_ret
      exact ⟨by first | rfl | (simp; done) | (simp [*]; done), HL.out⟩
    · rw [if_neg c1196] at H
      have c1196b0 : ((t1190 == 2) && ((t1191 == 0) && ((t1192 == 2)))) = false := by simpa using c1196
      have hc1196 := hid c1196
      clear c1196
      obtain rfl := Option.some.inj H
      clear H
      go_enter Try.func9, Try.ntmps9
      have k1202 := True.intro
      have k1205 := True.intro
      go_wp2_with (first
        | (go_at_call 14; clear k1202; refine (i_lex_Number.calls k (⟨#[54, 53]⟩ : ByteArray) 0 1 64 t1186 t1187 t1188 _ A1193.out).mono ?_; rintro e_ w1203 ⟨rfl, hb_⟩; replace HL := hid (HL.out.trans (hb_.mono HL.out.size)); clear hb_)
        | ((with_reducible refine gate_d (N := 2) rfl ?_); refine ag_build (.agg #[.int .i64 1, .int .i64 0, .int .i64 2]) _ rfl rfl ?_ ?_; (intro ww_; simp only [List.map_toArray, List.map_cons, List.map_nil]; kernel_rfl))
        | ((with_reducible refine gate_d (N := 3) rfl ?_); refine ag_fix (.bool true) (ex_eq .eql 26 (.agg #[.int .i64 t1186, .int .i64 t1187, .int .i64 t1188]) (.agg #[.int .i64 1, .int .i64 0, .int .i64 2]) (.bool true) (fun x_ y_ w_ => guard_any (by kernel_rfl) _ x_ y_ w_) (fun w_ => (eq_bin (fun d_ w2_ => eqS26 d_ w2_ t1186 1 t1187 0 t1188 2 ) (by decide) w_).trans (by rw [show ((t1186 == 1) && ((t1187 == 0) && ((t1188 == 2)))) = true from hc1194.out])) _ _ _ rfl rfl rfl) rfl ?_)
        | ((with_reducible refine gate_d (N := 5) rfl ?_); obtain ⟨go1189, hgo1189⟩ : ∃ g_, w1203.heap.size = g_ := ⟨_, rfl⟩; refine ag_litn (e := 9) 2 #[.string (⟨#[99, 97, 116]⟩ : ByteArray), .string (⟨#[99, 111, 119]⟩ : ByteArray)] go1189 hgo1189 rfl _ rfl (fun w_ => by (try simp only [List.map_toArray, List.map_cons, List.map_nil]); kernel_rfl) ?_; intro w1204 hb_ hB_ hs_; have GEo1189 : Hid (w.heap.size ≤ go1189) := hid (by have := HL.out.size; omega); replace HL := hid (HL.out.trans (hb_.mono GEo1189.out)); have BKo1189 := hid hB_; clear hb_ hB_ hs_ hgo1189; obtain ⟨uo1189, hu_⟩ : ∃ u_, u_ = (Value.slice (some ⟨go1189, 0, none⟩) 2 2) := ⟨_, rfl⟩; have SWo1189 : Hid (Own w1204 w.heap.size 9 (uo1189) ([(⟨#[99, 97, 116]⟩ : ByteArray), (⟨#[99, 111, 119]⟩ : ByteArray)].map Value.string)) := hid (by rw [hu_]; exact Own.lit GEo1189.out BKo1189.out rfl (by simp [maxLen])); rw [← hu_]; clear hu_ BKo1189)
        | (go_at_call 12; clear k1205; refine (i_lex_OneOf.calls k (⟨#[99, 97, 114]⟩ : ByteArray) 0 (uo1189) [(⟨#[99, 97, 116]⟩ : ByteArray), (⟨#[99, 111, 119]⟩ : ByteArray)] t1190 t1191 t1192 _ SWo1189.out.sl A1195.out).mono ?_; rintro e_ w1206 ⟨rfl, hb_⟩; replace SWo1189 := hid (SWo1189.out.below hb_); replace HL := hid (HL.out.trans (hb_.mono HL.out.size)); clear hb_)
        | ((with_reducible refine gate_d (N := 7) rfl ?_); refine ag_build (.agg #[.int .i64 2, .int .i64 0, .int .i64 2]) _ rfl rfl ?_ ?_; (intro ww_; simp only [List.map_toArray, List.map_cons, List.map_nil]; kernel_rfl))
        | ((with_reducible refine gate_d (N := 8) rfl ?_); refine ag_fix (.bool false) (ex_eq .eql 26 (.agg #[.int .i64 t1190, .int .i64 t1191, .int .i64 t1192]) (.agg #[.int .i64 2, .int .i64 0, .int .i64 2]) (.bool false) (fun x_ y_ w_ => guard_any (by kernel_rfl) _ x_ y_ w_) (fun w_ => (eq_bin (fun d_ w2_ => eqS26 d_ w2_ t1190 2 t1191 0 t1192 2 ) (by decide) w_).trans (by rw [show ((t1190 == 2) && ((t1191 == 0) && ((t1192 == 2)))) = false from Bool.eq_false_iff.mpr hc1196.out])) _ _ _ rfl rfl rfl) rfl ?_))
      (try simp only [Act.put, List.setIfInBounds_toArray, List.set_cons_zero, List.set_cons_succ])
      go_ret
      exact ⟨by first | rfl | (simp; done) | (simp [*]; done), HL.out⟩
  · rw [if_neg c1194] at H
    have c1194b0 : ((t1186 == 1) && ((t1187 == 0) && ((t1188 == 2)))) = false := by simpa using c1194
    have hc1194 := hid c1194
    clear c1194
    obtain rfl := Option.some.inj H
    clear H
    go_enter Try.func9, Try.ntmps9
    have k1207 := True.intro
    go_wp2_with (first
      | (go_at_call 14; clear k1207; refine (i_lex_Number.calls k (⟨#[54, 53]⟩ : ByteArray) 0 1 64 t1186 t1187 t1188 _ A1193.out).mono ?_; rintro e_ w1208 ⟨rfl, hb_⟩; replace HL := hid (HL.out.trans (hb_.mono HL.out.size)); clear hb_)
      | ((with_reducible refine gate_d (N := 2) rfl ?_); refine ag_build (.agg #[.int .i64 1, .int .i64 0, .int .i64 2]) _ rfl rfl ?_ ?_; (intro ww_; simp only [List.map_toArray, List.map_cons, List.map_nil]; kernel_rfl))
      | ((with_reducible refine gate_d (N := 3) rfl ?_); refine ag_fix (.bool false) (ex_eq .eql 26 (.agg #[.int .i64 t1186, .int .i64 t1187, .int .i64 t1188]) (.agg #[.int .i64 1, .int .i64 0, .int .i64 2]) (.bool false) (fun x_ y_ w_ => guard_any (by kernel_rfl) _ x_ y_ w_) (fun w_ => (eq_bin (fun d_ w2_ => eqS26 d_ w2_ t1186 1 t1187 0 t1188 2 ) (by decide) w_).trans (by rw [show ((t1186 == 1) && ((t1187 == 0) && ((t1188 == 2)))) = false from Bool.eq_false_iff.mpr hc1194.out])) _ _ _ rfl rfl rfl) rfl ?_))
    (try simp only [Act.put, List.setIfInBounds_toArray, List.set_cons_zero, List.set_cons_succ])
    go_ret
    exact ⟨by first | rfl | (simp; done) | (simp [*]; done), HL.out⟩
/-! i_alfillaw14_LexWords: function 3 -/
def i_alfillaw14_LexWords.l0 : Nat → ByteArray → Int → List ByteArray → Int → Option (Bool)
  | 0, _, _, _, _ => none
  | k + 1, a0, a1, a2, x20_0 => if x20_0 < (a2.length : Int) then (if 0 ≤ x20_0 then (if ((nt a2 x20_0.toNat ByteArray.empty).size : Int) > 50 then (some true) else ((i_lex_Word.f k a0 a1 (nt a2 x20_0.toNat ByteArray.empty)).bind fun bt1227 => ((i_alfilref14_Word.f k a0 a1 (nt a2 x20_0.toNat ByteArray.empty)).bind fun bt1231 => (if ((bt1227.1 == bt1231.1) && ((bt1227.2.1 == bt1231.2.1) && ((bt1227.2.2 == bt1231.2.2)))) = true then (i_alfillaw14_LexWords.l0 k a0 a1 a2 (wrap64 (x20_0 + 1))) else (some false))))) else (none)) else ((i_lex_OneOf.f k a0 a1 a2).bind fun bt1234 => ((i_alfilref14_OneOf.f k a0 a1 a2).bind fun bt1237 => (if ((bt1234.1 == bt1237.1) && ((bt1234.2.1 == bt1237.2.1) && ((bt1234.2.2 == bt1237.2.2)))) = true then (some true) else (some false))))
def i_alfillaw14_LexWords.f (k : Nat) (a0 : ByteArray) (a1 : Int) (a2 : List ByteArray) : Option (Bool) := (i_alfillaw14_wakes.f k).bind fun t1209 => (if t1209 = true then (if (a0.size : Int) > 200 then (some true) else (if (a2.length : Int) > 20 then (some true) else (i_alfillaw14_LexWords.l0 k a0 a1 a2 0))) else (some false))
set_option maxHeartbeats 40000000 in
set_option maxRecDepth 100000 in
theorem i_alfillaw14_LexWords.calls (k : Nat) (a0 : ByteArray) (a1 : Int) (v2_ : Value) (a2 : List ByteArray) (r1 : Bool) (w : World) (hs2 : Sl w v2_ (a2.map Value.string)) (h : i_alfillaw14_LexWords.f k a0 a1 a2 = some r1) :
    Calls Try.prog 3 #[.string a0, .int .i64 a1, v2_] w fun e w' => e = .returned (.bool r1) ∧ Below w.heap.size w w' := by
  have HL := hid (Below.refl w.heap.size w)
  have SP2 := hid hs2
  clear hs2
  have H : ((i_alfillaw14_wakes.f k).bind fun t1209 => (if t1209 = true then (if (a0.size : Int) > 200 then (some true) else (if (a2.length : Int) > 20 then (some true) else (i_alfillaw14_LexWords.l0 k a0 a1 a2 0))) else (some false))) = some r1 := h
  clear h
  replace H := Option.bind_eq_some_iff.mp H
  obtain ⟨t1209, A1240_, H⟩ := H
  replace H : (if t1209 = true then (if (a0.size : Int) > 200 then (some true) else (if (a2.length : Int) > 20 then (some true) else (i_alfillaw14_LexWords.l0 k a0 a1 a2 0))) else (some false)) = some r1 := H
  have A1240 := hid A1240_
  clear A1240_
  cases t1209 with
  | true =>
    rw [if_pos rfl] at H
    by_cases c1242 : (a0.size : Int) > 200
    · rw [if_pos c1242] at H
      have c1242b0 : decide (200 < (a0.size : Int)) = true := decide_eq_true c1242
      have c1242b1 : decide (200 < a0.size) = true := decide_eq_true (by omega)
      have hc1242 := hid c1242
      clear c1242
      obtain rfl := Option.some.inj H
      clear H
      go_enter Try.func3, Try.ntmps3
      have k1243 := True.intro
      go_wp2_with (first
        | (go_at_call 9; clear k1243; refine (i_alfillaw14_wakes.calls k true _ A1240.out).mono ?_; rintro e_ w1244 ⟨rfl, hb_⟩; replace HL := hid (HL.out.trans (hb_.mono HL.out.size)); clear hb_))
      (try simp only [Act.put, List.setIfInBounds_toArray, List.set_cons_zero, List.set_cons_succ])
      go_ret
      exact ⟨by first | rfl | (simp; done) | (simp [*]; done), HL.out⟩
    · rw [if_neg c1242] at H
      have c1242b0 : decide (200 < (a0.size : Int)) = false := decide_eq_false c1242
      have c1242b1 : decide (200 < a0.size) = false := decide_eq_false (by omega)
      have hc1242 := hid c1242
      clear c1242
      by_cases c1245 : (a2.length : Int) > 20
      · rw [if_pos c1245] at H
        have c1245b0 : decide (20 < (a2.length : Int)) = true := decide_eq_true c1245
        have c1245b1 : decide (20 < a2.length) = true := decide_eq_true (by omega)
        have hc1245 := hid c1245
        clear c1245
        obtain rfl := Option.some.inj H
        clear H
        go_enter Try.func3, Try.ntmps3
        have k1246 := True.intro
        go_wp2_with (first
          | (go_at_call 9; clear k1246; refine (i_alfillaw14_wakes.calls k true _ A1240.out).mono ?_; rintro e_ w1247 ⟨rfl, hb_⟩; replace HL := hid (HL.out.trans (hb_.mono HL.out.size)); clear hb_)
          | ((with_reducible refine gate_d (N := 15) rfl ?_); obtain ⟨A1248, c1249, hv1250⟩ := (SP2.out.below HL.out).shape; rw [List.length_map] at hv1250; refine ag_fix (.int .i64 (a2.length : Int)) (ex_len us22 _ _ _ _ hv1250 _ rfl rfl) rfl ?_; clear hv1250))
        (try simp only [Act.put, List.setIfInBounds_toArray, List.set_cons_zero, List.set_cons_succ])
        go_ret
        exact ⟨by first | rfl | (simp; done) | (simp [*]; done), HL.out⟩
      · rw [if_neg c1245] at H
        have c1245b0 : decide (20 < (a2.length : Int)) = false := decide_eq_false c1245
        have c1245b1 : decide (20 < a2.length) = false := decide_eq_false (by omega)
        have hc1245 := hid c1245
        clear c1245
        have H' := hid H
        clear H
        go_enter Try.func3, Try.ntmps3
        have k1251 := True.intro
        go_wp2_with (first
          | (go_at_call 9; clear k1251; refine (i_alfillaw14_wakes.calls k true _ A1240.out).mono ?_; rintro e_ w1252 ⟨rfl, hb_⟩; replace HL := hid (HL.out.trans (hb_.mono HL.out.size)); clear hb_)
          | ((with_reducible refine gate_d (N := 15) rfl ?_); obtain ⟨A1253, c1254, hv1255⟩ := (SP2.out.below HL.out).shape; rw [List.length_map] at hv1255; refine ag_fix (.int .i64 (a2.length : Int)) (ex_len us22 _ _ _ _ hv1255 _ rfl rfl) rfl ?_; clear hv1255)
          | ((with_reducible refine gate_d (N := 19) rfl ?_); obtain ⟨A1256, c1257, hv1258⟩ := (SP2.out.below HL.out).shape; rw [List.length_map] at hv1258; refine ag_fix (.int .i64 (a2.length : Int)) (ex_len us22 _ _ _ _ hv1258 _ rfl rfl) rfl ?_; clear hv1258))
        (try simp only [Act.put, List.setIfInBounds_toArray, List.set_cons_zero, List.set_cons_succ])
        go_loopg [20] k (fun kq v20 w' => ∃ (x20_0 : Int), v20 = .int .i64 x20_0 ∧ Hid (i_alfillaw14_LexWords.l0 kq a0 a1 a2 x20_0 = some r1) ∧ Hid (kq ≤ k) ∧ Hid (Below w.heap.size w w'))
        case atStart => exact ⟨(0 : Int), (by first | rfl | (simp; done) | (simp [*]; done)), H', (hid (by first | omega | (omega))), HL⟩
        case round =>
          clear H'
          clear HL
          obtain ⟨x20_0, rfl, HA, HK1259, HL⟩ := hrel
          cases gk with
          | zero => exact absurd HA.out (by simp [i_alfillaw14_LexWords.l0])
          | succ k1260 =>
            have H := HA.out
            clear HA
            simp only [i_alfillaw14_LexWords.l0] at H
            by_cases c1261 : x20_0 < (a2.length : Int)
            · rw [if_pos c1261] at H
              have c1261b0 : decide (x20_0 < (a2.length : Int)) = true := decide_eq_true c1261
              have hc1261 := hid c1261
              clear c1261
              by_cases c1262 : 0 ≤ x20_0
              · rw [if_pos c1262] at H
                have c1262b0 : decide (0 ≤ x20_0) = true := decide_eq_true c1262
                have hc1262 := hid c1262
                clear c1262
                by_cases c1263 : ((nt a2 x20_0.toNat ByteArray.empty).size : Int) > 50
                · rw [if_pos c1263] at H
                  have c1263b0 : decide (50 < ((nt a2 x20_0.toNat ByteArray.empty).size : Int)) = true := decide_eq_true c1263
                  have c1263b1 : decide (50 < (nt a2 x20_0.toNat ByteArray.empty).size) = true := decide_eq_true (by omega)
                  have hc1263 := hid c1263
                  clear c1263
                  obtain rfl := Option.some.inj H
                  clear H
                  go_wp2_with (first
                    | ((with_reducible refine gate_d (N := 25) rfl ?_); obtain ⟨ad1225, c1264, hv1265, HCad1225_⟩ := Sl.get (l := a2) (f := Value.string) (SP2.out.below HL.out) ByteArray.empty (i := x20_0) hc1262.out hc1261.out; have HCad1225 := hid HCad1225_; clear HCad1225_; refine ag_fix (.pointer (some (ad1225.add x20_0.toNat))) (ex_sat _ _ x20_0 _ _ hv1265 hc1262.out hc1261.out us22 sT9 _ _ rfl rfl rfl) rfl ?_; clear hv1265)
                    | ((with_reducible refine gate_d (N := 26) rfl ?_); refine ag_fix (.string (nt a2 x20_0.toNat ByteArray.empty)) (ex_scell sT9 _ _ HCad1225.out _ rfl rfl) rfl ?_))
                  (try simp only [Act.put, List.setIfInBounds_toArray, List.set_cons_zero, List.set_cons_succ])
                  go_ret
                  exact ⟨by first | rfl | (simp; done) | (simp [*]; done), HL.out⟩
                · rw [if_neg c1263] at H
                  have c1263b0 : decide (50 < ((nt a2 x20_0.toNat ByteArray.empty).size : Int)) = false := decide_eq_false c1263
                  have c1263b1 : decide (50 < (nt a2 x20_0.toNat ByteArray.empty).size) = false := decide_eq_false (by omega)
                  have hc1263 := hid c1263
                  clear c1263
                  replace H := Option.bind_eq_some_iff.mp H
                  obtain ⟨⟨t1227, t1228, t1229⟩, A1266_, H⟩ := H
                  replace H : ((i_alfilref14_Word.f k1260 a0 a1 (nt a2 x20_0.toNat ByteArray.empty)).bind fun bt1231 => (if ((t1227 == bt1231.1) && ((t1228 == bt1231.2.1) && ((t1229 == bt1231.2.2)))) = true then (i_alfillaw14_LexWords.l0 k1260 a0 a1 a2 (wrap64 (x20_0 + 1))) else (some false))) = some r1 := H
                  have A1266 := hid A1266_
                  clear A1266_
                  replace H := Option.bind_eq_some_iff.mp H
                  obtain ⟨⟨t1231, t1232, t1233⟩, A1267_, H⟩ := H
                  replace H : (if ((t1227 == t1231) && ((t1228 == t1232) && ((t1229 == t1233)))) = true then (i_alfillaw14_LexWords.l0 k1260 a0 a1 a2 (wrap64 (x20_0 + 1))) else (some false)) = some r1 := H
                  have A1267 := hid A1267_
                  clear A1267_
                  by_cases c1268 : ((t1227 == t1231) && ((t1228 == t1232) && ((t1229 == t1233)))) = true
                  · rw [if_pos c1268] at H
                    have c1268b0 : ((t1227 == t1231) && ((t1228 == t1232) && ((t1229 == t1233)))) = true := c1268
                    have hc1268 := hid c1268
                    clear c1268
                    have H' := hid H
                    clear H
                    go_wp2_with (first
                      | ((with_reducible refine gate_d (N := 25) rfl ?_); obtain ⟨ad1225, c1269, hv1270, HCad1225_⟩ := Sl.get (l := a2) (f := Value.string) (SP2.out.below HL.out) ByteArray.empty (i := x20_0) hc1262.out hc1261.out; have HCad1225 := hid HCad1225_; clear HCad1225_; refine ag_fix (.pointer (some (ad1225.add x20_0.toNat))) (ex_sat _ _ x20_0 _ _ hv1270 hc1262.out hc1261.out us22 sT9 _ _ rfl rfl rfl) rfl ?_; clear hv1270)
                      | ((with_reducible refine gate_d (N := 26) rfl ?_); refine ag_fix (.string (nt a2 x20_0.toNat ByteArray.empty)) (ex_scell sT9 _ _ HCad1225.out _ rfl rfl) rfl ?_))
                    (try simp only [Act.put, List.setIfInBounds_toArray, List.set_cons_zero, List.set_cons_succ])
                    obtain ⟨ad1226, c_33, hv_33, hc_33⟩ := Sl.get (l := a2) (f := Value.string) (SP2.out.below HL.out) ByteArray.empty (i := x20_0) hc1262.out hc1261.out
                    have HV_33 := hid hv_33
                    have HCad1226 := hid hc_33
                    clear hv_33 hc_33
                    obtain ⟨ad1230, c_40, hv_40, hc_40⟩ := Sl.get (l := a2) (f := Value.string) (SP2.out.below HL.out) ByteArray.empty (i := x20_0) hc1262.out hc1261.out
                    have HV_40 := hid hv_40
                    have HCad1230 := hid hc_40
                    clear hv_40 hc_40
                    have WR64 := i64_w
                    have WR32 := i32_w
                    refine up_regionW (by kernel_rfl) (by kernel_rfl) ?_
                    refine q_do (.string a0) (fun w'_ hc_ => ex_mv (.tmp 0) (.inl rfl) _ rfl) rfl rfl ?_
                    intro ts_ ht_; simp only [List.setIfInBounds_toArray, List.set_cons_zero, List.set_cons_succ] at ht_; subst ht_
                    refine q_do (.int .i64 a1) (fun w'_ hc_ => ex_mv (.tmp 1) (.inl rfl) _ rfl) rfl rfl ?_
                    intro ts_ ht_; simp only [List.setIfInBounds_toArray, List.set_cons_zero, List.set_cons_succ] at ht_; subst ht_
                    refine q_do (v2_) (fun w'_ hc_ => ex_mv (.tmp 2) (.inl rfl) _ rfl) rfl rfl ?_
                    intro ts_ ht_; simp only [List.setIfInBounds_toArray, List.set_cons_zero, List.set_cons_succ] at ht_; subst ht_
                    refine q_do (.int .i64 x20_0) (fun w'_ hc_ => ex_mv (.tmp 7) (.inl rfl) _ rfl) rfl rfl ?_
                    intro ts_ ht_; simp only [List.setIfInBounds_toArray, List.set_cons_zero, List.set_cons_succ] at ht_; subst ht_
                    refine q_do (.pointer (some (ad1226.add x20_0.toNat))) (fun w'_ hc_ => by obtain ⟨n_, hn_⟩ := hc_; exact ex_sat _ _ x20_0 _ _ HV_33.out hc1262.out hc1261.out us22 sT9 _ _ rfl rfl rfl) rfl rfl ?_
                    intro ts_ ht_; simp only [List.setIfInBounds_toArray, List.set_cons_zero, List.set_cons_succ] at ht_; subst ht_
                    refine q_do (.string (nt a2 x20_0.toNat ByteArray.empty)) (fun w'_ hc_ => by obtain ⟨n_, hn_⟩ := hc_; exact ex_scell sT9 _ _ (by rw [hn_]; exact (n_.below.cell (World.block_lt_of_cell? _ _ HCad1226.out)).trans HCad1226.out) _ rfl rfl) rfl rfl ?_
                    intro ts_ ht_; simp only [List.setIfInBounds_toArray, List.set_cons_zero, List.set_cons_succ] at ht_; subst ht_
                    refine q_call (.agg #[.int .i64 t1227, .int .i64 t1228, .int .i64 t1229]) 10 #[.string a0, .int .i64 a1, .string (nt a2 x20_0.toNat ByteArray.empty)] (fun w'_ => by go_simp) (fun w'_ hc_ => (i_lex_Word.calls k1260 a0 a1 (nt a2 x20_0.toNat ByteArray.empty) t1227 t1228 t1229 _ A1266.out).mono fun e_ w2_ h_ => ⟨h_.1, up_below hc_ h_.2⟩) rfl rfl ?_
                    intro ts_ ht_; simp only [List.setIfInBounds_toArray, List.set_cons_zero, List.set_cons_succ] at ht_; subst ht_
                    refine q_do (.string a0) (fun w'_ hc_ => ex_mv (.tmp 0) (.inl rfl) _ rfl) rfl rfl ?_
                    intro ts_ ht_; simp only [List.setIfInBounds_toArray, List.set_cons_zero, List.set_cons_succ] at ht_; subst ht_
                    refine q_do (.int .i64 a1) (fun w'_ hc_ => ex_mv (.tmp 1) (.inl rfl) _ rfl) rfl rfl ?_
                    intro ts_ ht_; simp only [List.setIfInBounds_toArray, List.set_cons_zero, List.set_cons_succ] at ht_; subst ht_
                    refine q_do (v2_) (fun w'_ hc_ => ex_mv (.tmp 2) (.inl rfl) _ rfl) rfl rfl ?_
                    intro ts_ ht_; simp only [List.setIfInBounds_toArray, List.set_cons_zero, List.set_cons_succ] at ht_; subst ht_
                    refine q_do (.int .i64 x20_0) (fun w'_ hc_ => ex_mv (.tmp 7) (.inl rfl) _ rfl) rfl rfl ?_
                    intro ts_ ht_; simp only [List.setIfInBounds_toArray, List.set_cons_zero, List.set_cons_succ] at ht_; subst ht_
                    refine q_do (.pointer (some (ad1230.add x20_0.toNat))) (fun w'_ hc_ => by obtain ⟨n_, hn_⟩ := hc_; exact ex_sat _ _ x20_0 _ _ HV_40.out hc1262.out hc1261.out us22 sT9 _ _ rfl rfl rfl) rfl rfl ?_
                    intro ts_ ht_; simp only [List.setIfInBounds_toArray, List.set_cons_zero, List.set_cons_succ] at ht_; subst ht_
                    refine q_do (.string (nt a2 x20_0.toNat ByteArray.empty)) (fun w'_ hc_ => by obtain ⟨n_, hn_⟩ := hc_; exact ex_scell sT9 _ _ (by rw [hn_]; exact (n_.below.cell (World.block_lt_of_cell? _ _ HCad1230.out)).trans HCad1230.out) _ rfl rfl) rfl rfl ?_
                    intro ts_ ht_; simp only [List.setIfInBounds_toArray, List.set_cons_zero, List.set_cons_succ] at ht_; subst ht_
                    refine q_call (.agg #[.int .i64 t1231, .int .i64 t1232, .int .i64 t1233]) 11 #[.string a0, .int .i64 a1, .string (nt a2 x20_0.toNat ByteArray.empty)] (fun w'_ => by go_simp) (fun w'_ hc_ => (i_alfilref14_Word.calls k1260 a0 a1 (nt a2 x20_0.toNat ByteArray.empty) t1231 t1232 t1233 _ A1267.out).mono fun e_ w2_ h_ => ⟨h_.1, up_below hc_ h_.2⟩) rfl rfl ?_
                    intro ts_ ht_; simp only [List.setIfInBounds_toArray, List.set_cons_zero, List.set_cons_succ] at ht_; subst ht_
                    refine q_do (.bool false) (fun w'_ hc_ => by obtain ⟨n_, hn_⟩ := hc_; exact ex_eq .neq 26 (.agg #[.int .i64 t1227, .int .i64 t1228, .int .i64 t1229]) (.agg #[.int .i64 t1231, .int .i64 t1232, .int .i64 t1233]) (.bool false) (fun x_ y_ w_ => guard_any (by kernel_rfl) _ x_ y_ w_) (fun w_ => (neq_bin (fun d_ w2_ => eqS26 d_ w2_ t1227 t1231 t1228 t1232 t1229 t1233 ) (by decide) w_).trans (by rw [show ((t1227 == t1231) && ((t1228 == t1232) && ((t1229 == t1233)))) = true from hc1268.out]; rfl)) _ _ _ rfl rfl rfl) rfl rfl ?_
                    intro ts_ ht_; simp only [List.setIfInBounds_toArray, List.set_cons_zero, List.set_cons_succ] at ht_; subst ht_
                    refine q_end ?_
                    rintro w8_ ⟨n_, rfl⟩
                    replace HL := hid (HL.out.trans (n_.below.mono HL.out.size))
                    generalize n_.world = w1271 at *
                    clear n_ WR64 WR32
                    go_wp2_with fail
                    (try simp only [Act.put, List.setIfInBounds_toArray, List.set_cons_zero, List.set_cons_succ])
                    go_roundg k1260
                    case measure => have := HK1259.out; omega
                    case rel => exact ⟨wrap64 (x20_0 + 1), (by first | rfl | (simp; done) | (simp [*]; done)), H', (hid (by first | omega | (have := HK1259.out; omega))), HL⟩
                  · rw [if_neg c1268] at H
                    have c1268b0 : ((t1227 == t1231) && ((t1228 == t1232) && ((t1229 == t1233)))) = false := by simpa using c1268
                    have hc1268 := hid c1268
                    clear c1268
                    obtain rfl := Option.some.inj H
                    clear H
                    go_wp2_with (first
                      | ((with_reducible refine gate_d (N := 25) rfl ?_); obtain ⟨ad1225, c1272, hv1273, HCad1225_⟩ := Sl.get (l := a2) (f := Value.string) (SP2.out.below HL.out) ByteArray.empty (i := x20_0) hc1262.out hc1261.out; have HCad1225 := hid HCad1225_; clear HCad1225_; refine ag_fix (.pointer (some (ad1225.add x20_0.toNat))) (ex_sat _ _ x20_0 _ _ hv1273 hc1262.out hc1261.out us22 sT9 _ _ rfl rfl rfl) rfl ?_; clear hv1273)
                      | ((with_reducible refine gate_d (N := 26) rfl ?_); refine ag_fix (.string (nt a2 x20_0.toNat ByteArray.empty)) (ex_scell sT9 _ _ HCad1225.out _ rfl rfl) rfl ?_))
                    (try simp only [Act.put, List.setIfInBounds_toArray, List.set_cons_zero, List.set_cons_succ])
                    obtain ⟨ad1226, c_33, hv_33, hc_33⟩ := Sl.get (l := a2) (f := Value.string) (SP2.out.below HL.out) ByteArray.empty (i := x20_0) hc1262.out hc1261.out
                    have HV_33 := hid hv_33
                    have HCad1226 := hid hc_33
                    clear hv_33 hc_33
                    obtain ⟨ad1230, c_40, hv_40, hc_40⟩ := Sl.get (l := a2) (f := Value.string) (SP2.out.below HL.out) ByteArray.empty (i := x20_0) hc1262.out hc1261.out
                    have HV_40 := hid hv_40
                    have HCad1230 := hid hc_40
                    clear hv_40 hc_40
                    have WR64 := i64_w
                    have WR32 := i32_w
                    refine up_regionW (by kernel_rfl) (by kernel_rfl) ?_
                    refine q_do (.string a0) (fun w'_ hc_ => ex_mv (.tmp 0) (.inl rfl) _ rfl) rfl rfl ?_
                    intro ts_ ht_; simp only [List.setIfInBounds_toArray, List.set_cons_zero, List.set_cons_succ] at ht_; subst ht_
                    refine q_do (.int .i64 a1) (fun w'_ hc_ => ex_mv (.tmp 1) (.inl rfl) _ rfl) rfl rfl ?_
                    intro ts_ ht_; simp only [List.setIfInBounds_toArray, List.set_cons_zero, List.set_cons_succ] at ht_; subst ht_
                    refine q_do (v2_) (fun w'_ hc_ => ex_mv (.tmp 2) (.inl rfl) _ rfl) rfl rfl ?_
                    intro ts_ ht_; simp only [List.setIfInBounds_toArray, List.set_cons_zero, List.set_cons_succ] at ht_; subst ht_
                    refine q_do (.int .i64 x20_0) (fun w'_ hc_ => ex_mv (.tmp 7) (.inl rfl) _ rfl) rfl rfl ?_
                    intro ts_ ht_; simp only [List.setIfInBounds_toArray, List.set_cons_zero, List.set_cons_succ] at ht_; subst ht_
                    refine q_do (.pointer (some (ad1226.add x20_0.toNat))) (fun w'_ hc_ => by obtain ⟨n_, hn_⟩ := hc_; exact ex_sat _ _ x20_0 _ _ HV_33.out hc1262.out hc1261.out us22 sT9 _ _ rfl rfl rfl) rfl rfl ?_
                    intro ts_ ht_; simp only [List.setIfInBounds_toArray, List.set_cons_zero, List.set_cons_succ] at ht_; subst ht_
                    refine q_do (.string (nt a2 x20_0.toNat ByteArray.empty)) (fun w'_ hc_ => by obtain ⟨n_, hn_⟩ := hc_; exact ex_scell sT9 _ _ (by rw [hn_]; exact (n_.below.cell (World.block_lt_of_cell? _ _ HCad1226.out)).trans HCad1226.out) _ rfl rfl) rfl rfl ?_
                    intro ts_ ht_; simp only [List.setIfInBounds_toArray, List.set_cons_zero, List.set_cons_succ] at ht_; subst ht_
                    refine q_call (.agg #[.int .i64 t1227, .int .i64 t1228, .int .i64 t1229]) 10 #[.string a0, .int .i64 a1, .string (nt a2 x20_0.toNat ByteArray.empty)] (fun w'_ => by go_simp) (fun w'_ hc_ => (i_lex_Word.calls k1260 a0 a1 (nt a2 x20_0.toNat ByteArray.empty) t1227 t1228 t1229 _ A1266.out).mono fun e_ w2_ h_ => ⟨h_.1, up_below hc_ h_.2⟩) rfl rfl ?_
                    intro ts_ ht_; simp only [List.setIfInBounds_toArray, List.set_cons_zero, List.set_cons_succ] at ht_; subst ht_
                    refine q_do (.string a0) (fun w'_ hc_ => ex_mv (.tmp 0) (.inl rfl) _ rfl) rfl rfl ?_
                    intro ts_ ht_; simp only [List.setIfInBounds_toArray, List.set_cons_zero, List.set_cons_succ] at ht_; subst ht_
                    refine q_do (.int .i64 a1) (fun w'_ hc_ => ex_mv (.tmp 1) (.inl rfl) _ rfl) rfl rfl ?_
                    intro ts_ ht_; simp only [List.setIfInBounds_toArray, List.set_cons_zero, List.set_cons_succ] at ht_; subst ht_
                    refine q_do (v2_) (fun w'_ hc_ => ex_mv (.tmp 2) (.inl rfl) _ rfl) rfl rfl ?_
                    intro ts_ ht_; simp only [List.setIfInBounds_toArray, List.set_cons_zero, List.set_cons_succ] at ht_; subst ht_
                    refine q_do (.int .i64 x20_0) (fun w'_ hc_ => ex_mv (.tmp 7) (.inl rfl) _ rfl) rfl rfl ?_
                    intro ts_ ht_; simp only [List.setIfInBounds_toArray, List.set_cons_zero, List.set_cons_succ] at ht_; subst ht_
                    refine q_do (.pointer (some (ad1230.add x20_0.toNat))) (fun w'_ hc_ => by obtain ⟨n_, hn_⟩ := hc_; exact ex_sat _ _ x20_0 _ _ HV_40.out hc1262.out hc1261.out us22 sT9 _ _ rfl rfl rfl) rfl rfl ?_
                    intro ts_ ht_; simp only [List.setIfInBounds_toArray, List.set_cons_zero, List.set_cons_succ] at ht_; subst ht_
                    refine q_do (.string (nt a2 x20_0.toNat ByteArray.empty)) (fun w'_ hc_ => by obtain ⟨n_, hn_⟩ := hc_; exact ex_scell sT9 _ _ (by rw [hn_]; exact (n_.below.cell (World.block_lt_of_cell? _ _ HCad1230.out)).trans HCad1230.out) _ rfl rfl) rfl rfl ?_
                    intro ts_ ht_; simp only [List.setIfInBounds_toArray, List.set_cons_zero, List.set_cons_succ] at ht_; subst ht_
                    refine q_call (.agg #[.int .i64 t1231, .int .i64 t1232, .int .i64 t1233]) 11 #[.string a0, .int .i64 a1, .string (nt a2 x20_0.toNat ByteArray.empty)] (fun w'_ => by go_simp) (fun w'_ hc_ => (i_alfilref14_Word.calls k1260 a0 a1 (nt a2 x20_0.toNat ByteArray.empty) t1231 t1232 t1233 _ A1267.out).mono fun e_ w2_ h_ => ⟨h_.1, up_below hc_ h_.2⟩) rfl rfl ?_
                    intro ts_ ht_; simp only [List.setIfInBounds_toArray, List.set_cons_zero, List.set_cons_succ] at ht_; subst ht_
                    refine q_do (.bool true) (fun w'_ hc_ => by obtain ⟨n_, hn_⟩ := hc_; exact ex_eq .neq 26 (.agg #[.int .i64 t1227, .int .i64 t1228, .int .i64 t1229]) (.agg #[.int .i64 t1231, .int .i64 t1232, .int .i64 t1233]) (.bool true) (fun x_ y_ w_ => guard_any (by kernel_rfl) _ x_ y_ w_) (fun w_ => (neq_bin (fun d_ w2_ => eqS26 d_ w2_ t1227 t1231 t1228 t1232 t1229 t1233 ) (by decide) w_).trans (by rw [show ((t1227 == t1231) && ((t1228 == t1232) && ((t1229 == t1233)))) = false from Bool.eq_false_iff.mpr hc1268.out]; rfl)) _ _ _ rfl rfl rfl) rfl rfl ?_
                    intro ts_ ht_; simp only [List.setIfInBounds_toArray, List.set_cons_zero, List.set_cons_succ] at ht_; subst ht_
                    refine q_end ?_
                    rintro w8_ ⟨n_, rfl⟩
                    replace HL := hid (HL.out.trans (n_.below.mono HL.out.size))
                    generalize n_.world = w1274 at *
                    clear n_ WR64 WR32
                    go_wp2_with fail
                    (try simp only [Act.put, List.setIfInBounds_toArray, List.set_cons_zero, List.set_cons_succ])
                    go_ret
                    exact ⟨by first | rfl | (simp; done) | (simp [*]; done), HL.out⟩
              · rw [if_neg c1262] at H
                exact absurd H (by simp)
            · rw [if_neg c1261] at H
              have c1261b0 : decide (x20_0 < (a2.length : Int)) = false := decide_eq_false c1261
              have hc1261 := hid c1261
              clear c1261
              replace H := Option.bind_eq_some_iff.mp H
              obtain ⟨⟨t1234, t1235, t1236⟩, A1275_, H⟩ := H
              replace H : ((i_alfilref14_OneOf.f k1260 a0 a1 a2).bind fun bt1237 => (if ((t1234 == bt1237.1) && ((t1235 == bt1237.2.1) && ((t1236 == bt1237.2.2)))) = true then (some true) else (some false))) = some r1 := H
              have A1275 := hid A1275_
              clear A1275_
              replace H := Option.bind_eq_some_iff.mp H
              obtain ⟨⟨t1237, t1238, t1239⟩, A1276_, H⟩ := H
              replace H : (if ((t1234 == t1237) && ((t1235 == t1238) && ((t1236 == t1239)))) = true then (some true) else (some false)) = some r1 := H
              have A1276 := hid A1276_
              clear A1276_
              by_cases c1277 : ((t1234 == t1237) && ((t1235 == t1238) && ((t1236 == t1239)))) = true
              · rw [if_pos c1277] at H
                have c1277b0 : ((t1234 == t1237) && ((t1235 == t1238) && ((t1236 == t1239)))) = true := c1277
                have hc1277 := hid c1277
                clear c1277
                obtain rfl := Option.some.inj H
                clear H
                have k1278 := True.intro
                have k1280 := True.intro
                go_wp2_with (first
                  | (go_at_call 12; clear k1278; refine (i_lex_OneOf.calls k1260 a0 a1 (v2_) a2 t1234 t1235 t1236 _ (SP2.out.below HL.out) A1275.out).mono ?_; rintro e_ w1279 ⟨rfl, hb_⟩; replace HL := hid (HL.out.trans (hb_.mono HL.out.size)); clear hb_)
                  | (go_at_call 13; clear k1280; refine (i_alfilref14_OneOf.calls k1260 a0 a1 (v2_) a2 t1237 t1238 t1239 _ (SP2.out.below HL.out) A1276.out).mono ?_; rintro e_ w1281 ⟨rfl, hb_⟩; replace HL := hid (HL.out.trans (hb_.mono HL.out.size)); clear hb_)
                  | ((with_reducible refine gate_d (N := 53) rfl ?_); refine ag_fix (.bool true) (ex_eq .eql 26 (.agg #[.int .i64 t1234, .int .i64 t1235, .int .i64 t1236]) (.agg #[.int .i64 t1237, .int .i64 t1238, .int .i64 t1239]) (.bool true) (fun x_ y_ w_ => guard_any (by kernel_rfl) _ x_ y_ w_) (fun w_ => (eq_bin (fun d_ w2_ => eqS26 d_ w2_ t1234 t1237 t1235 t1238 t1236 t1239 ) (by decide) w_).trans (by rw [show ((t1234 == t1237) && ((t1235 == t1238) && ((t1236 == t1239)))) = true from hc1277.out])) _ _ _ rfl rfl rfl) rfl ?_))
                (try simp only [Act.put, List.setIfInBounds_toArray, List.set_cons_zero, List.set_cons_succ])
                go_ret
                exact ⟨by first | rfl | (simp; done) | (simp [*]; done), HL.out⟩
              · rw [if_neg c1277] at H
                have c1277b0 : ((t1234 == t1237) && ((t1235 == t1238) && ((t1236 == t1239)))) = false := by simpa using c1277
                have hc1277 := hid c1277
                clear c1277
                obtain rfl := Option.some.inj H
                clear H
                have k1282 := True.intro
                have k1284 := True.intro
                go_wp2_with (first
                  | (go_at_call 12; clear k1282; refine (i_lex_OneOf.calls k1260 a0 a1 (v2_) a2 t1234 t1235 t1236 _ (SP2.out.below HL.out) A1275.out).mono ?_; rintro e_ w1283 ⟨rfl, hb_⟩; replace HL := hid (HL.out.trans (hb_.mono HL.out.size)); clear hb_)
                  | (go_at_call 13; clear k1284; refine (i_alfilref14_OneOf.calls k1260 a0 a1 (v2_) a2 t1237 t1238 t1239 _ (SP2.out.below HL.out) A1276.out).mono ?_; rintro e_ w1285 ⟨rfl, hb_⟩; replace HL := hid (HL.out.trans (hb_.mono HL.out.size)); clear hb_)
                  | ((with_reducible refine gate_d (N := 53) rfl ?_); refine ag_fix (.bool false) (ex_eq .eql 26 (.agg #[.int .i64 t1234, .int .i64 t1235, .int .i64 t1236]) (.agg #[.int .i64 t1237, .int .i64 t1238, .int .i64 t1239]) (.bool false) (fun x_ y_ w_ => guard_any (by kernel_rfl) _ x_ y_ w_) (fun w_ => (eq_bin (fun d_ w2_ => eqS26 d_ w2_ t1234 t1237 t1235 t1238 t1236 t1239 ) (by decide) w_).trans (by rw [show ((t1234 == t1237) && ((t1235 == t1238) && ((t1236 == t1239)))) = false from Bool.eq_false_iff.mpr hc1277.out])) _ _ _ rfl rfl rfl) rfl ?_))
                (try simp only [Act.put, List.setIfInBounds_toArray, List.set_cons_zero, List.set_cons_succ])
                go_ret
                exact ⟨by first | rfl | (simp; done) | (simp [*]; done), HL.out⟩
  | false =>
    rw [if_neg (show ¬ (false = true) by decide)] at H
    obtain rfl := Option.some.inj H
    clear H
    go_enter Try.func3, Try.ntmps3
    have k1286 := True.intro
    go_wp2_with (first
      | (go_at_call 9; clear k1286; refine (i_alfillaw14_wakes.calls k false _ A1240.out).mono ?_; rintro e_ w1287 ⟨rfl, hb_⟩; replace HL := hid (HL.out.trans (hb_.mono HL.out.size)); clear hb_))
    (try simp only [Act.put, List.setIfInBounds_toArray, List.set_cons_zero, List.set_cons_succ])
    go_ret
    exact ⟨by first | rfl | (simp; done) | (simp [*]; done), HL.out⟩
/-! i_alfillaw14_LexNumbers: function 4 -/
def i_alfillaw14_LexNumbers.f (k : Nat) (a0 : ByteArray) (a1 : Int) (a2 : List Int) : Option (Bool) := (i_alfillaw14_wakes.f k).bind fun t1289 => (if t1289 = true then (if (a0.size : Int) > 200 then (some true) else ((i_lex_Number.f k a0 a1 (nt a2 0 0) (nt a2 1 0)).bind fun bt1290 => ((i_alfilref14_Number.f k a0 a1 (nt a2 0 0) (nt a2 1 0)).bind fun bt1293 => (if ((bt1290.1 == bt1293.1) && ((bt1290.2.1 == bt1293.2.1) && ((bt1290.2.2 == bt1293.2.2)))) = true then (some true) else (some false))))) else (some false))
set_option maxHeartbeats 40000000 in
set_option maxRecDepth 100000 in
theorem i_alfillaw14_LexNumbers.calls (k : Nat) (a0 : ByteArray) (a1 : Int) (a2 : List Int) (hla2 : a2.length = 2) (r1 : Bool) (w : World) (h : i_alfillaw14_LexNumbers.f k a0 a1 a2 = some r1) :
    Calls Try.prog 4 #[.string a0, .int .i64 a1, .agg (av (Value.int .i64) a2)] w fun e w' => e = .returned (.bool r1) ∧ Below w.heap.size w w' := by
  have LN_a2 := hid hla2
  clear hla2
  have HL := hid (Below.refl w.heap.size w)
  have H : ((i_alfillaw14_wakes.f k).bind fun t1289 => (if t1289 = true then (if (a0.size : Int) > 200 then (some true) else ((i_lex_Number.f k a0 a1 (nt a2 0 0) (nt a2 1 0)).bind fun bt1290 => ((i_alfilref14_Number.f k a0 a1 (nt a2 0 0) (nt a2 1 0)).bind fun bt1293 => (if ((bt1290.1 == bt1293.1) && ((bt1290.2.1 == bt1293.2.1) && ((bt1290.2.2 == bt1293.2.2)))) = true then (some true) else (some false))))) else (some false))) = some r1 := h
  clear h
  replace H := Option.bind_eq_some_iff.mp H
  obtain ⟨t1289, A1296_, H⟩ := H
  replace H : (if t1289 = true then (if (a0.size : Int) > 200 then (some true) else ((i_lex_Number.f k a0 a1 (nt a2 0 0) (nt a2 1 0)).bind fun bt1290 => ((i_alfilref14_Number.f k a0 a1 (nt a2 0 0) (nt a2 1 0)).bind fun bt1293 => (if ((bt1290.1 == bt1293.1) && ((bt1290.2.1 == bt1293.2.1) && ((bt1290.2.2 == bt1293.2.2)))) = true then (some true) else (some false))))) else (some false)) = some r1 := H
  have A1296 := hid A1296_
  clear A1296_
  cases t1289 with
  | true =>
    rw [if_pos rfl] at H
    by_cases c1298 : (a0.size : Int) > 200
    · rw [if_pos c1298] at H
      have c1298b0 : decide (200 < (a0.size : Int)) = true := decide_eq_true c1298
      have c1298b1 : decide (200 < a0.size) = true := decide_eq_true (by omega)
      have hc1298 := hid c1298
      clear c1298
      obtain rfl := Option.some.inj H
      clear H
      go_enter Try.func4, Try.ntmps4
      have k1300 := True.intro
      go_wp2_with (first
        | ((with_reducible refine gate_d (N := 5) rfl ?_); obtain ⟨gb1288, hgb1288⟩ : ∃ g_, w.heap.size = g_ := ⟨_, rfl⟩; refine ag_box (av (Value.int .i64) a2) gb1288 hgb1288 rfl _ rfl rfl ?_; intro w1299 hb_ hB_ hs_; have GEb1288 : Hid (w.heap.size ≤ gb1288) := hid (by have := HL.out.size; omega); replace HL := hid (HL.out.trans (hb_.mono GEb1288.out)); have BKb1288 := hid hB_; clear hb_ hB_ hs_ hgb1288)
        | (go_at_call 9; clear k1300; refine (i_alfillaw14_wakes.calls k true _ A1296.out).mono ?_; rintro e_ w1301 ⟨rfl, hb_⟩; replace BKb1288 := hid (BKb1288.out.below hb_ BKb1288.out.lt); replace HL := hid (HL.out.trans (hb_.mono HL.out.size)); clear hb_))
      (try simp only [Act.put, List.setIfInBounds_toArray, List.set_cons_zero, List.set_cons_succ])
      go_ret
      exact ⟨by first | rfl | (simp; done) | (simp [*]; done), HL.out⟩
    · rw [if_neg c1298] at H
      have c1298b0 : decide (200 < (a0.size : Int)) = false := decide_eq_false c1298
      have c1298b1 : decide (200 < a0.size) = false := decide_eq_false (by omega)
      have hc1298 := hid c1298
      clear c1298
      replace H := Option.bind_eq_some_iff.mp H
      obtain ⟨⟨t1290, t1291, t1292⟩, A1302_, H⟩ := H
      replace H : ((i_alfilref14_Number.f k a0 a1 (nt a2 0 0) (nt a2 1 0)).bind fun bt1293 => (if ((t1290 == bt1293.1) && ((t1291 == bt1293.2.1) && ((t1292 == bt1293.2.2)))) = true then (some true) else (some false))) = some r1 := H
      have A1302 := hid A1302_
      clear A1302_
      replace H := Option.bind_eq_some_iff.mp H
      obtain ⟨⟨t1293, t1294, t1295⟩, A1303_, H⟩ := H
      replace H : (if ((t1290 == t1293) && ((t1291 == t1294) && ((t1292 == t1295)))) = true then (some true) else (some false)) = some r1 := H
      have A1303 := hid A1303_
      clear A1303_
      by_cases c1304 : ((t1290 == t1293) && ((t1291 == t1294) && ((t1292 == t1295)))) = true
      · rw [if_pos c1304] at H
        have c1304b0 : ((t1290 == t1293) && ((t1291 == t1294) && ((t1292 == t1295)))) = true := c1304
        have hc1304 := hid c1304
        clear c1304
        obtain rfl := Option.some.inj H
        clear H
        go_enter Try.func4, Try.ntmps4
        have k1306 := True.intro
        go_wp2_with (first
          | ((with_reducible refine gate_d (N := 5) rfl ?_); obtain ⟨gb1288, hgb1288⟩ : ∃ g_, w.heap.size = g_ := ⟨_, rfl⟩; refine ag_box (av (Value.int .i64) a2) gb1288 hgb1288 rfl _ rfl rfl ?_; intro w1305 hb_ hB_ hs_; have GEb1288 : Hid (w.heap.size ≤ gb1288) := hid (by have := HL.out.size; omega); replace HL := hid (HL.out.trans (hb_.mono GEb1288.out)); have BKb1288 := hid hB_; clear hb_ hB_ hs_ hgb1288)
          | (go_at_call 9; clear k1306; refine (i_alfillaw14_wakes.calls k true _ A1296.out).mono ?_; rintro e_ w1307 ⟨rfl, hb_⟩; replace BKb1288 := hid (BKb1288.out.below hb_ BKb1288.out.lt); replace HL := hid (HL.out.trans (hb_.mono HL.out.size)); clear hb_))
        (try simp only [Act.put, List.setIfInBounds_toArray, List.set_cons_zero, List.set_cons_succ])
        have WR64 := i64_w
        have WR32 := i32_w
        refine up_regionW (by kernel_rfl) (by kernel_rfl) ?_
        refine q_do (.string a0) (fun w'_ hc_ => ex_mv (.tmp 0) (.inl rfl) _ rfl) rfl rfl ?_
        intro ts_ ht_; simp only [List.setIfInBounds_toArray, List.set_cons_zero, List.set_cons_succ] at ht_; subst ht_
        refine q_do (.int .i64 a1) (fun w'_ hc_ => ex_mv (.tmp 1) (.inl rfl) _ rfl) rfl rfl ?_
        intro ts_ ht_; simp only [List.setIfInBounds_toArray, List.set_cons_zero, List.set_cons_succ] at ht_; subst ht_
        refine q_do (.pointer (some ⟨gb1288, 0, none⟩)) (fun w'_ hc_ => by obtain ⟨n_, hn_⟩ := hc_; exact ex_at 30 (.pointer (some ⟨gb1288, 0, none⟩)) (.int .i64 0) (.pointer (some ⟨gb1288, 0, none⟩)) (fun w_ => (run_atv 3 uT30 sT3.size gb1288 0 0 (by omega) (by omega) w_).trans rfl) _ _ rfl rfl rfl) rfl rfl ?_
        intro ts_ ht_; simp only [List.setIfInBounds_toArray, List.set_cons_zero, List.set_cons_succ] at ht_; subst ht_
        refine q_do (.int .i64 (nt a2 0 0)) (fun w'_ hc_ => by obtain ⟨n_, hn_⟩ := hc_; exact ex_get sT3 gb1288 (0) (.int .i64 (nt a2 0 0)) ((av (Value.int .i64) a2)) (by rw [hn_]; exact BKb1288.out.below n_.below BKb1288.out.lt) (av_get 0 (by have h_ : a2.length = 2 := (by first | rfl | (simp only [List.length_set, List.length_replicate, zL_len, List.length_cons, List.length_nil, LN_a2.out]; done) | (simp [zL_len, LN_a2.out]; done)); omega)) _ rfl rfl) rfl rfl ?_
        intro ts_ ht_; simp only [List.setIfInBounds_toArray, List.set_cons_zero, List.set_cons_succ] at ht_; subst ht_
        refine q_do (.pointer (some ⟨gb1288, 1, none⟩)) (fun w'_ hc_ => by obtain ⟨n_, hn_⟩ := hc_; exact ex_at 30 (.pointer (some ⟨gb1288, 0, none⟩)) (.int .i64 1) (.pointer (some ⟨gb1288, 1, none⟩)) (fun w_ => (run_atv 3 uT30 sT3.size gb1288 0 1 (by omega) (by omega) w_).trans rfl) _ _ rfl rfl rfl) rfl rfl ?_
        intro ts_ ht_; simp only [List.setIfInBounds_toArray, List.set_cons_zero, List.set_cons_succ] at ht_; subst ht_
        refine q_do (.int .i64 (nt a2 1 0)) (fun w'_ hc_ => by obtain ⟨n_, hn_⟩ := hc_; exact ex_get sT3 gb1288 (1) (.int .i64 (nt a2 1 0)) ((av (Value.int .i64) a2)) (by rw [hn_]; exact BKb1288.out.below n_.below BKb1288.out.lt) (av_get 0 (by have h_ : a2.length = 2 := (by first | rfl | (simp only [List.length_set, List.length_replicate, zL_len, List.length_cons, List.length_nil, LN_a2.out]; done) | (simp [zL_len, LN_a2.out]; done)); omega)) _ rfl rfl) rfl rfl ?_
        intro ts_ ht_; simp only [List.setIfInBounds_toArray, List.set_cons_zero, List.set_cons_succ] at ht_; subst ht_
        refine q_call (.agg #[.int .i64 t1290, .int .i64 t1291, .int .i64 t1292]) 14 #[.string a0, .int .i64 a1, .int .i64 (nt a2 0 0), .int .i64 (nt a2 1 0)] (fun w'_ => by go_simp) (fun w'_ hc_ => (i_lex_Number.calls k a0 a1 (nt a2 0 0) (nt a2 1 0) t1290 t1291 t1292 _ A1302.out).mono fun e_ w2_ h_ => ⟨h_.1, up_below hc_ h_.2⟩) rfl rfl ?_
        intro ts_ ht_; simp only [List.setIfInBounds_toArray, List.set_cons_zero, List.set_cons_succ] at ht_; subst ht_
        refine q_do (.string a0) (fun w'_ hc_ => ex_mv (.tmp 0) (.inl rfl) _ rfl) rfl rfl ?_
        intro ts_ ht_; simp only [List.setIfInBounds_toArray, List.set_cons_zero, List.set_cons_succ] at ht_; subst ht_
        refine q_do (.int .i64 a1) (fun w'_ hc_ => ex_mv (.tmp 1) (.inl rfl) _ rfl) rfl rfl ?_
        intro ts_ ht_; simp only [List.setIfInBounds_toArray, List.set_cons_zero, List.set_cons_succ] at ht_; subst ht_
        refine q_do (.pointer (some ⟨gb1288, 0, none⟩)) (fun w'_ hc_ => by obtain ⟨n_, hn_⟩ := hc_; exact ex_at 30 (.pointer (some ⟨gb1288, 0, none⟩)) (.int .i64 0) (.pointer (some ⟨gb1288, 0, none⟩)) (fun w_ => (run_atv 3 uT30 sT3.size gb1288 0 0 (by omega) (by omega) w_).trans rfl) _ _ rfl rfl rfl) rfl rfl ?_
        intro ts_ ht_; simp only [List.setIfInBounds_toArray, List.set_cons_zero, List.set_cons_succ] at ht_; subst ht_
        refine q_do (.int .i64 (nt a2 0 0)) (fun w'_ hc_ => by obtain ⟨n_, hn_⟩ := hc_; exact ex_get sT3 gb1288 (0) (.int .i64 (nt a2 0 0)) ((av (Value.int .i64) a2)) (by rw [hn_]; exact BKb1288.out.below n_.below BKb1288.out.lt) (av_get 0 (by have h_ : a2.length = 2 := (by first | rfl | (simp only [List.length_set, List.length_replicate, zL_len, List.length_cons, List.length_nil, LN_a2.out]; done) | (simp [zL_len, LN_a2.out]; done)); omega)) _ rfl rfl) rfl rfl ?_
        intro ts_ ht_; simp only [List.setIfInBounds_toArray, List.set_cons_zero, List.set_cons_succ] at ht_; subst ht_
        refine q_do (.pointer (some ⟨gb1288, 1, none⟩)) (fun w'_ hc_ => by obtain ⟨n_, hn_⟩ := hc_; exact ex_at 30 (.pointer (some ⟨gb1288, 0, none⟩)) (.int .i64 1) (.pointer (some ⟨gb1288, 1, none⟩)) (fun w_ => (run_atv 3 uT30 sT3.size gb1288 0 1 (by omega) (by omega) w_).trans rfl) _ _ rfl rfl rfl) rfl rfl ?_
        intro ts_ ht_; simp only [List.setIfInBounds_toArray, List.set_cons_zero, List.set_cons_succ] at ht_; subst ht_
        refine q_do (.int .i64 (nt a2 1 0)) (fun w'_ hc_ => by obtain ⟨n_, hn_⟩ := hc_; exact ex_get sT3 gb1288 (1) (.int .i64 (nt a2 1 0)) ((av (Value.int .i64) a2)) (by rw [hn_]; exact BKb1288.out.below n_.below BKb1288.out.lt) (av_get 0 (by have h_ : a2.length = 2 := (by first | rfl | (simp only [List.length_set, List.length_replicate, zL_len, List.length_cons, List.length_nil, LN_a2.out]; done) | (simp [zL_len, LN_a2.out]; done)); omega)) _ rfl rfl) rfl rfl ?_
        intro ts_ ht_; simp only [List.setIfInBounds_toArray, List.set_cons_zero, List.set_cons_succ] at ht_; subst ht_
        refine q_call (.agg #[.int .i64 t1293, .int .i64 t1294, .int .i64 t1295]) 15 #[.string a0, .int .i64 a1, .int .i64 (nt a2 0 0), .int .i64 (nt a2 1 0)] (fun w'_ => by go_simp) (fun w'_ hc_ => (i_alfilref14_Number.calls k a0 a1 (nt a2 0 0) (nt a2 1 0) t1293 t1294 t1295 _ A1303.out).mono fun e_ w2_ h_ => ⟨h_.1, up_below hc_ h_.2⟩) rfl rfl ?_
        intro ts_ ht_; simp only [List.setIfInBounds_toArray, List.set_cons_zero, List.set_cons_succ] at ht_; subst ht_
        refine q_do (.bool true) (fun w'_ hc_ => by obtain ⟨n_, hn_⟩ := hc_; exact ex_eq .eql 26 (.agg #[.int .i64 t1290, .int .i64 t1291, .int .i64 t1292]) (.agg #[.int .i64 t1293, .int .i64 t1294, .int .i64 t1295]) (.bool true) (fun x_ y_ w_ => guard_any (by kernel_rfl) _ x_ y_ w_) (fun w_ => (eq_bin (fun d_ w2_ => eqS26 d_ w2_ t1290 t1293 t1291 t1294 t1292 t1295 ) (by decide) w_).trans (by rw [show ((t1290 == t1293) && ((t1291 == t1294) && ((t1292 == t1295)))) = true from hc1304.out])) _ _ _ rfl rfl rfl) rfl rfl ?_
        intro ts_ ht_; simp only [List.setIfInBounds_toArray, List.set_cons_zero, List.set_cons_succ] at ht_; subst ht_
        refine q_do (.bool true) (fun w'_ hc_ => ex_mv (.tmp 26) (.inr rfl) _ rfl) rfl rfl ?_
        intro ts_ ht_; simp only [List.setIfInBounds_toArray, List.set_cons_zero, List.set_cons_succ] at ht_; subst ht_
        refine q_end ?_
        rintro w8_ ⟨n_, rfl⟩
        replace BKb1288 := hid (BKb1288.out.below n_.below BKb1288.out.lt)
        replace HL := hid (HL.out.trans (n_.below.mono HL.out.size))
        generalize n_.world = w1308 at *
        clear n_ WR64 WR32
        go_wp2_with fail
        (try simp only [Act.put, List.setIfInBounds_toArray, List.set_cons_zero, List.set_cons_succ])
        go_ret
        exact ⟨by first | rfl | (simp; done) | (simp [*]; done), HL.out⟩
      · rw [if_neg c1304] at H
        have c1304b0 : ((t1290 == t1293) && ((t1291 == t1294) && ((t1292 == t1295)))) = false := by simpa using c1304
        have hc1304 := hid c1304
        clear c1304
        obtain rfl := Option.some.inj H
        clear H
        go_enter Try.func4, Try.ntmps4
        have k1310 := True.intro
        go_wp2_with (first
          | ((with_reducible refine gate_d (N := 5) rfl ?_); obtain ⟨gb1288, hgb1288⟩ : ∃ g_, w.heap.size = g_ := ⟨_, rfl⟩; refine ag_box (av (Value.int .i64) a2) gb1288 hgb1288 rfl _ rfl rfl ?_; intro w1309 hb_ hB_ hs_; have GEb1288 : Hid (w.heap.size ≤ gb1288) := hid (by have := HL.out.size; omega); replace HL := hid (HL.out.trans (hb_.mono GEb1288.out)); have BKb1288 := hid hB_; clear hb_ hB_ hs_ hgb1288)
          | (go_at_call 9; clear k1310; refine (i_alfillaw14_wakes.calls k true _ A1296.out).mono ?_; rintro e_ w1311 ⟨rfl, hb_⟩; replace BKb1288 := hid (BKb1288.out.below hb_ BKb1288.out.lt); replace HL := hid (HL.out.trans (hb_.mono HL.out.size)); clear hb_))
        (try simp only [Act.put, List.setIfInBounds_toArray, List.set_cons_zero, List.set_cons_succ])
        have WR64 := i64_w
        have WR32 := i32_w
        refine up_regionW (by kernel_rfl) (by kernel_rfl) ?_
        refine q_do (.string a0) (fun w'_ hc_ => ex_mv (.tmp 0) (.inl rfl) _ rfl) rfl rfl ?_
        intro ts_ ht_; simp only [List.setIfInBounds_toArray, List.set_cons_zero, List.set_cons_succ] at ht_; subst ht_
        refine q_do (.int .i64 a1) (fun w'_ hc_ => ex_mv (.tmp 1) (.inl rfl) _ rfl) rfl rfl ?_
        intro ts_ ht_; simp only [List.setIfInBounds_toArray, List.set_cons_zero, List.set_cons_succ] at ht_; subst ht_
        refine q_do (.pointer (some ⟨gb1288, 0, none⟩)) (fun w'_ hc_ => by obtain ⟨n_, hn_⟩ := hc_; exact ex_at 30 (.pointer (some ⟨gb1288, 0, none⟩)) (.int .i64 0) (.pointer (some ⟨gb1288, 0, none⟩)) (fun w_ => (run_atv 3 uT30 sT3.size gb1288 0 0 (by omega) (by omega) w_).trans rfl) _ _ rfl rfl rfl) rfl rfl ?_
        intro ts_ ht_; simp only [List.setIfInBounds_toArray, List.set_cons_zero, List.set_cons_succ] at ht_; subst ht_
        refine q_do (.int .i64 (nt a2 0 0)) (fun w'_ hc_ => by obtain ⟨n_, hn_⟩ := hc_; exact ex_get sT3 gb1288 (0) (.int .i64 (nt a2 0 0)) ((av (Value.int .i64) a2)) (by rw [hn_]; exact BKb1288.out.below n_.below BKb1288.out.lt) (av_get 0 (by have h_ : a2.length = 2 := (by first | rfl | (simp only [List.length_set, List.length_replicate, zL_len, List.length_cons, List.length_nil, LN_a2.out]; done) | (simp [zL_len, LN_a2.out]; done)); omega)) _ rfl rfl) rfl rfl ?_
        intro ts_ ht_; simp only [List.setIfInBounds_toArray, List.set_cons_zero, List.set_cons_succ] at ht_; subst ht_
        refine q_do (.pointer (some ⟨gb1288, 1, none⟩)) (fun w'_ hc_ => by obtain ⟨n_, hn_⟩ := hc_; exact ex_at 30 (.pointer (some ⟨gb1288, 0, none⟩)) (.int .i64 1) (.pointer (some ⟨gb1288, 1, none⟩)) (fun w_ => (run_atv 3 uT30 sT3.size gb1288 0 1 (by omega) (by omega) w_).trans rfl) _ _ rfl rfl rfl) rfl rfl ?_
        intro ts_ ht_; simp only [List.setIfInBounds_toArray, List.set_cons_zero, List.set_cons_succ] at ht_; subst ht_
        refine q_do (.int .i64 (nt a2 1 0)) (fun w'_ hc_ => by obtain ⟨n_, hn_⟩ := hc_; exact ex_get sT3 gb1288 (1) (.int .i64 (nt a2 1 0)) ((av (Value.int .i64) a2)) (by rw [hn_]; exact BKb1288.out.below n_.below BKb1288.out.lt) (av_get 0 (by have h_ : a2.length = 2 := (by first | rfl | (simp only [List.length_set, List.length_replicate, zL_len, List.length_cons, List.length_nil, LN_a2.out]; done) | (simp [zL_len, LN_a2.out]; done)); omega)) _ rfl rfl) rfl rfl ?_
        intro ts_ ht_; simp only [List.setIfInBounds_toArray, List.set_cons_zero, List.set_cons_succ] at ht_; subst ht_
        refine q_call (.agg #[.int .i64 t1290, .int .i64 t1291, .int .i64 t1292]) 14 #[.string a0, .int .i64 a1, .int .i64 (nt a2 0 0), .int .i64 (nt a2 1 0)] (fun w'_ => by go_simp) (fun w'_ hc_ => (i_lex_Number.calls k a0 a1 (nt a2 0 0) (nt a2 1 0) t1290 t1291 t1292 _ A1302.out).mono fun e_ w2_ h_ => ⟨h_.1, up_below hc_ h_.2⟩) rfl rfl ?_
        intro ts_ ht_; simp only [List.setIfInBounds_toArray, List.set_cons_zero, List.set_cons_succ] at ht_; subst ht_
        refine q_do (.string a0) (fun w'_ hc_ => ex_mv (.tmp 0) (.inl rfl) _ rfl) rfl rfl ?_
        intro ts_ ht_; simp only [List.setIfInBounds_toArray, List.set_cons_zero, List.set_cons_succ] at ht_; subst ht_
        refine q_do (.int .i64 a1) (fun w'_ hc_ => ex_mv (.tmp 1) (.inl rfl) _ rfl) rfl rfl ?_
        intro ts_ ht_; simp only [List.setIfInBounds_toArray, List.set_cons_zero, List.set_cons_succ] at ht_; subst ht_
        refine q_do (.pointer (some ⟨gb1288, 0, none⟩)) (fun w'_ hc_ => by obtain ⟨n_, hn_⟩ := hc_; exact ex_at 30 (.pointer (some ⟨gb1288, 0, none⟩)) (.int .i64 0) (.pointer (some ⟨gb1288, 0, none⟩)) (fun w_ => (run_atv 3 uT30 sT3.size gb1288 0 0 (by omega) (by omega) w_).trans rfl) _ _ rfl rfl rfl) rfl rfl ?_
        intro ts_ ht_; simp only [List.setIfInBounds_toArray, List.set_cons_zero, List.set_cons_succ] at ht_; subst ht_
        refine q_do (.int .i64 (nt a2 0 0)) (fun w'_ hc_ => by obtain ⟨n_, hn_⟩ := hc_; exact ex_get sT3 gb1288 (0) (.int .i64 (nt a2 0 0)) ((av (Value.int .i64) a2)) (by rw [hn_]; exact BKb1288.out.below n_.below BKb1288.out.lt) (av_get 0 (by have h_ : a2.length = 2 := (by first | rfl | (simp only [List.length_set, List.length_replicate, zL_len, List.length_cons, List.length_nil, LN_a2.out]; done) | (simp [zL_len, LN_a2.out]; done)); omega)) _ rfl rfl) rfl rfl ?_
        intro ts_ ht_; simp only [List.setIfInBounds_toArray, List.set_cons_zero, List.set_cons_succ] at ht_; subst ht_
        refine q_do (.pointer (some ⟨gb1288, 1, none⟩)) (fun w'_ hc_ => by obtain ⟨n_, hn_⟩ := hc_; exact ex_at 30 (.pointer (some ⟨gb1288, 0, none⟩)) (.int .i64 1) (.pointer (some ⟨gb1288, 1, none⟩)) (fun w_ => (run_atv 3 uT30 sT3.size gb1288 0 1 (by omega) (by omega) w_).trans rfl) _ _ rfl rfl rfl) rfl rfl ?_
        intro ts_ ht_; simp only [List.setIfInBounds_toArray, List.set_cons_zero, List.set_cons_succ] at ht_; subst ht_
        refine q_do (.int .i64 (nt a2 1 0)) (fun w'_ hc_ => by obtain ⟨n_, hn_⟩ := hc_; exact ex_get sT3 gb1288 (1) (.int .i64 (nt a2 1 0)) ((av (Value.int .i64) a2)) (by rw [hn_]; exact BKb1288.out.below n_.below BKb1288.out.lt) (av_get 0 (by have h_ : a2.length = 2 := (by first | rfl | (simp only [List.length_set, List.length_replicate, zL_len, List.length_cons, List.length_nil, LN_a2.out]; done) | (simp [zL_len, LN_a2.out]; done)); omega)) _ rfl rfl) rfl rfl ?_
        intro ts_ ht_; simp only [List.setIfInBounds_toArray, List.set_cons_zero, List.set_cons_succ] at ht_; subst ht_
        refine q_call (.agg #[.int .i64 t1293, .int .i64 t1294, .int .i64 t1295]) 15 #[.string a0, .int .i64 a1, .int .i64 (nt a2 0 0), .int .i64 (nt a2 1 0)] (fun w'_ => by go_simp) (fun w'_ hc_ => (i_alfilref14_Number.calls k a0 a1 (nt a2 0 0) (nt a2 1 0) t1293 t1294 t1295 _ A1303.out).mono fun e_ w2_ h_ => ⟨h_.1, up_below hc_ h_.2⟩) rfl rfl ?_
        intro ts_ ht_; simp only [List.setIfInBounds_toArray, List.set_cons_zero, List.set_cons_succ] at ht_; subst ht_
        refine q_do (.bool false) (fun w'_ hc_ => by obtain ⟨n_, hn_⟩ := hc_; exact ex_eq .eql 26 (.agg #[.int .i64 t1290, .int .i64 t1291, .int .i64 t1292]) (.agg #[.int .i64 t1293, .int .i64 t1294, .int .i64 t1295]) (.bool false) (fun x_ y_ w_ => guard_any (by kernel_rfl) _ x_ y_ w_) (fun w_ => (eq_bin (fun d_ w2_ => eqS26 d_ w2_ t1290 t1293 t1291 t1294 t1292 t1295 ) (by decide) w_).trans (by rw [show ((t1290 == t1293) && ((t1291 == t1294) && ((t1292 == t1295)))) = false from Bool.eq_false_iff.mpr hc1304.out])) _ _ _ rfl rfl rfl) rfl rfl ?_
        intro ts_ ht_; simp only [List.setIfInBounds_toArray, List.set_cons_zero, List.set_cons_succ] at ht_; subst ht_
        refine q_do (.bool false) (fun w'_ hc_ => ex_mv (.tmp 26) (.inr rfl) _ rfl) rfl rfl ?_
        intro ts_ ht_; simp only [List.setIfInBounds_toArray, List.set_cons_zero, List.set_cons_succ] at ht_; subst ht_
        refine q_end ?_
        rintro w8_ ⟨n_, rfl⟩
        replace BKb1288 := hid (BKb1288.out.below n_.below BKb1288.out.lt)
        replace HL := hid (HL.out.trans (n_.below.mono HL.out.size))
        generalize n_.world = w1312 at *
        clear n_ WR64 WR32
        go_wp2_with fail
        (try simp only [Act.put, List.setIfInBounds_toArray, List.set_cons_zero, List.set_cons_succ])
        go_ret
        exact ⟨by first | rfl | (simp; done) | (simp [*]; done), HL.out⟩
  | false =>
    rw [if_neg (show ¬ (false = true) by decide)] at H
    obtain rfl := Option.some.inj H
    clear H
    go_enter Try.func4, Try.ntmps4
    have k1314 := True.intro
    go_wp2_with (first
      | ((with_reducible refine gate_d (N := 5) rfl ?_); obtain ⟨gb1288, hgb1288⟩ : ∃ g_, w.heap.size = g_ := ⟨_, rfl⟩; refine ag_box (av (Value.int .i64) a2) gb1288 hgb1288 rfl _ rfl rfl ?_; intro w1313 hb_ hB_ hs_; have GEb1288 : Hid (w.heap.size ≤ gb1288) := hid (by have := HL.out.size; omega); replace HL := hid (HL.out.trans (hb_.mono GEb1288.out)); have BKb1288 := hid hB_; clear hb_ hB_ hs_ hgb1288)
      | (go_at_call 9; clear k1314; refine (i_alfillaw14_wakes.calls k false _ A1296.out).mono ?_; rintro e_ w1315 ⟨rfl, hb_⟩; replace BKb1288 := hid (BKb1288.out.below hb_ BKb1288.out.lt); replace HL := hid (HL.out.trans (hb_.mono HL.out.size)); clear hb_))
    (try simp only [Act.put, List.setIfInBounds_toArray, List.set_cons_zero, List.set_cons_succ])
    go_ret
    exact ⟨by first | rfl | (simp; done) | (simp [*]; done), HL.out⟩
/-! i_alfillaw14_LexGoesOn: function 5 -/
mutual
def i_alfillaw14_LexGoesOn.l0 : Nat → ByteArray → ByteArray → List ByteArray → Int → Option (Bool)
  | 0, _, _, _, _ => none
  | k + 1, a0, a1, a2, x33_0 => if x33_0 < (a2.length : Int) then (if 0 ≤ x33_0 then (if ((nt a2 x33_0.toNat ByteArray.empty).size : Int) > 50 then (some true) else (i_alfillaw14_LexGoesOn.l0 k a0 a1 a2 (wrap64 (x33_0 + 1)))) else (none)) else ((i_lex_OneOf.f k a0 0 a2).bind fun bt1338 => (if bt1338.2.2 = 2 then (if a0.size + a1.size ≤ 9223372036854775807 then ((i_lex_OneOf.f k (a0 ++ a1) 0 a2).bind fun bt1342 => (if ((bt1342.1 == bt1338.1) && ((bt1342.2.1 == bt1338.2.1) && ((bt1342.2.2 == bt1338.2.2)))) = true then (some true) else (some false))) else (none)) else (if bt1338.2.2 = 1 then (i_alfillaw14_LexGoesOn.l1 k a0 a2 0) else (if bt1338.2.2 = 0 then (if a0.size + a1.size ≤ 9223372036854775807 then ((i_lex_OneOf.f k (a0 ++ a1) 0 a2).bind fun bt1353 => (if ((bt1353.1 == bt1338.1) && ((bt1353.2.1 == bt1338.2.1) && ((bt1353.2.2 == bt1338.2.2)))) = true then (some true) else (some false))) else (none)) else (some false)))))
def i_alfillaw14_LexGoesOn.l1 : Nat → ByteArray → List ByteArray → Int → Option (Bool)
  | 0, _, _, _ => none
  | k + 1, a0, a2, x61_1 => if x61_1 < (a2.length : Int) then (if 0 ≤ x61_1 then (if ((nt a2 x61_1.toNat ByteArray.empty).size : Int) > (a0.size : Int) then (if 0 ≤ (a0.size : Int) then (if (a0.size : Int) ≤ ((nt a2 x61_1.toNat ByteArray.empty).size : Int) then (if ((nt a2 x61_1.toNat ByteArray.empty).extract 0 a0.size).toList = a0.toList then ((i_lex_OneOf.f k (nt a2 x61_1.toNat ByteArray.empty) 0 a2).bind fun bt1350 => (some (bt1350.2.2 == 0))) else (i_alfillaw14_LexGoesOn.l1 k a0 a2 (wrap64 (x61_1 + 1)))) else (none)) else (none)) else (i_alfillaw14_LexGoesOn.l1 k a0 a2 (wrap64 (x61_1 + 1)))) else (none)) else (some false)
end
def i_alfillaw14_LexGoesOn.f (k : Nat) (a0 : ByteArray) (a1 : ByteArray) (a2 : List ByteArray) : Option (Bool) := (i_alfillaw14_wakes.f k).bind fun t1316 => (if t1316 = true then (if (a0.size : Int) > 100 then (some true) else (if (a1.size : Int) > 100 then (some true) else (if (a2.length : Int) > 20 then (some true) else ((i_alfilref14_Apart.f k a2).bind fun t1317 => (if t1317 = true then (i_alfillaw14_LexGoesOn.l0 k a0 a1 a2 0) else (some true)))))) else (some false))
set_option maxHeartbeats 40000000 in
set_option maxRecDepth 100000 in
theorem i_alfillaw14_LexGoesOn.calls (k : Nat) (a0 : ByteArray) (a1 : ByteArray) (v2_ : Value) (a2 : List ByteArray) (r1 : Bool) (w : World) (hs2 : Sl w v2_ (a2.map Value.string)) (h : i_alfillaw14_LexGoesOn.f k a0 a1 a2 = some r1) :
    Calls Try.prog 5 #[.string a0, .string a1, v2_] w fun e w' => e = .returned (.bool r1) ∧ Below w.heap.size w w' := by
  have HL := hid (Below.refl w.heap.size w)
  have SP2 := hid hs2
  clear hs2
  have H : ((i_alfillaw14_wakes.f k).bind fun t1316 => (if t1316 = true then (if (a0.size : Int) > 100 then (some true) else (if (a1.size : Int) > 100 then (some true) else (if (a2.length : Int) > 20 then (some true) else ((i_alfilref14_Apart.f k a2).bind fun t1317 => (if t1317 = true then (i_alfillaw14_LexGoesOn.l0 k a0 a1 a2 0) else (some true)))))) else (some false))) = some r1 := h
  clear h
  replace H := Option.bind_eq_some_iff.mp H
  obtain ⟨t1316, A1356_, H⟩ := H
  replace H : (if t1316 = true then (if (a0.size : Int) > 100 then (some true) else (if (a1.size : Int) > 100 then (some true) else (if (a2.length : Int) > 20 then (some true) else ((i_alfilref14_Apart.f k a2).bind fun t1317 => (if t1317 = true then (i_alfillaw14_LexGoesOn.l0 k a0 a1 a2 0) else (some true)))))) else (some false)) = some r1 := H
  have A1356 := hid A1356_
  clear A1356_
  cases t1316 with
  | true =>
    rw [if_pos rfl] at H
    by_cases c1358 : (a0.size : Int) > 100
    · rw [if_pos c1358] at H
      have c1358b0 : decide (100 < (a0.size : Int)) = true := decide_eq_true c1358
      have c1358b1 : decide (100 < a0.size) = true := decide_eq_true (by omega)
      have hc1358 := hid c1358
      clear c1358
      obtain rfl := Option.some.inj H
      clear H
      go_enter Try.func5, Try.ntmps5
      have k1359 := True.intro
      go_wp2_with (first
        | (go_at_call 9; clear k1359; refine (i_alfillaw14_wakes.calls k true _ A1356.out).mono ?_; rintro e_ w1360 ⟨rfl, hb_⟩; replace HL := hid (HL.out.trans (hb_.mono HL.out.size)); clear hb_))
      (try simp only [Act.put, List.setIfInBounds_toArray, List.set_cons_zero, List.set_cons_succ])
      go_ret
      exact ⟨by first | rfl | (simp; done) | (simp [*]; done), HL.out⟩
    · rw [if_neg c1358] at H
      have c1358b0 : decide (100 < (a0.size : Int)) = false := decide_eq_false c1358
      have c1358b1 : decide (100 < a0.size) = false := decide_eq_false (by omega)
      have hc1358 := hid c1358
      clear c1358
      by_cases c1361 : (a1.size : Int) > 100
      · rw [if_pos c1361] at H
        have c1361b0 : decide (100 < (a1.size : Int)) = true := decide_eq_true c1361
        have c1361b1 : decide (100 < a1.size) = true := decide_eq_true (by omega)
        have hc1361 := hid c1361
        clear c1361
        obtain rfl := Option.some.inj H
        clear H
        go_enter Try.func5, Try.ntmps5
        have k1362 := True.intro
        go_wp2_with (first
          | (go_at_call 9; clear k1362; refine (i_alfillaw14_wakes.calls k true _ A1356.out).mono ?_; rintro e_ w1363 ⟨rfl, hb_⟩; replace HL := hid (HL.out.trans (hb_.mono HL.out.size)); clear hb_))
        (try simp only [Act.put, List.setIfInBounds_toArray, List.set_cons_zero, List.set_cons_succ])
        go_ret
        exact ⟨by first | rfl | (simp; done) | (simp [*]; done), HL.out⟩
      · rw [if_neg c1361] at H
        have c1361b0 : decide (100 < (a1.size : Int)) = false := decide_eq_false c1361
        have c1361b1 : decide (100 < a1.size) = false := decide_eq_false (by omega)
        have hc1361 := hid c1361
        clear c1361
        by_cases c1364 : (a2.length : Int) > 20
        · rw [if_pos c1364] at H
          have c1364b0 : decide (20 < (a2.length : Int)) = true := decide_eq_true c1364
          have c1364b1 : decide (20 < a2.length) = true := decide_eq_true (by omega)
          have hc1364 := hid c1364
          clear c1364
          obtain rfl := Option.some.inj H
          clear H
          go_enter Try.func5, Try.ntmps5
          have k1365 := True.intro
          go_wp2_with (first
            | (go_at_call 9; clear k1365; refine (i_alfillaw14_wakes.calls k true _ A1356.out).mono ?_; rintro e_ w1366 ⟨rfl, hb_⟩; replace HL := hid (HL.out.trans (hb_.mono HL.out.size)); clear hb_)
            | ((with_reducible refine gate_d (N := 23) rfl ?_); obtain ⟨A1367, c1368, hv1369⟩ := (SP2.out.below HL.out).shape; rw [List.length_map] at hv1369; refine ag_fix (.int .i64 (a2.length : Int)) (ex_len us22 _ _ _ _ hv1369 _ rfl rfl) rfl ?_; clear hv1369))
          (try simp only [Act.put, List.setIfInBounds_toArray, List.set_cons_zero, List.set_cons_succ])
          go_ret
          exact ⟨by first | rfl | (simp; done) | (simp [*]; done), HL.out⟩
        · rw [if_neg c1364] at H
          have c1364b0 : decide (20 < (a2.length : Int)) = false := decide_eq_false c1364
          have c1364b1 : decide (20 < a2.length) = false := decide_eq_false (by omega)
          have hc1364 := hid c1364
          clear c1364
          replace H := Option.bind_eq_some_iff.mp H
          obtain ⟨t1317, A1370_, H⟩ := H
          replace H : (if t1317 = true then (i_alfillaw14_LexGoesOn.l0 k a0 a1 a2 0) else (some true)) = some r1 := H
          have A1370 := hid A1370_
          clear A1370_
          cases t1317 with
          | true =>
            rw [if_pos rfl] at H
            have H' := hid H
            clear H
            go_enter Try.func5, Try.ntmps5
            have k1372 := True.intro
            have k1377 := True.intro
            go_wp2_with (first
              | (go_at_call 9; clear k1372; refine (i_alfillaw14_wakes.calls k true _ A1356.out).mono ?_; rintro e_ w1373 ⟨rfl, hb_⟩; replace HL := hid (HL.out.trans (hb_.mono HL.out.size)); clear hb_)
              | ((with_reducible refine gate_d (N := 23) rfl ?_); obtain ⟨A1374, c1375, hv1376⟩ := (SP2.out.below HL.out).shape; rw [List.length_map] at hv1376; refine ag_fix (.int .i64 (a2.length : Int)) (ex_len us22 _ _ _ _ hv1376 _ rfl rfl) rfl ?_; clear hv1376)
              | (go_at_call 16; clear k1377; refine (i_alfilref14_Apart.calls k (v2_) a2 true _ (SP2.out.below HL.out) A1370.out).mono ?_; rintro e_ w1378 ⟨rfl, hb_⟩; replace HL := hid (HL.out.trans (hb_.mono HL.out.size)); clear hb_)
              | ((with_reducible refine gate_d (N := 32) rfl ?_); obtain ⟨A1379, c1380, hv1381⟩ := (SP2.out.below HL.out).shape; rw [List.length_map] at hv1381; refine ag_fix (.int .i64 (a2.length : Int)) (ex_len us22 _ _ _ _ hv1381 _ rfl rfl) rfl ?_; clear hv1381))
            (try simp only [Act.put, List.setIfInBounds_toArray, List.set_cons_zero, List.set_cons_succ])
            go_loopg [33] k (fun kq v33 w' => ∃ (x33_0 : Int), v33 = .int .i64 x33_0 ∧ Hid (i_alfillaw14_LexGoesOn.l0 kq a0 a1 a2 x33_0 = some r1) ∧ Hid (kq ≤ k) ∧ Hid (Below w.heap.size w w'))
            case atStart => exact ⟨(0 : Int), (by first | rfl | (simp; done) | (simp [*]; done)), H', (hid (by first | omega | (omega))), HL⟩
            case round =>
              clear H'
              clear HL
              obtain ⟨x33_0, rfl, HA, HK1382, HL⟩ := hrel
              cases gk with
              | zero => exact absurd HA.out (by simp [i_alfillaw14_LexGoesOn.l0])
              | succ k1383 =>
                have H := HA.out
                clear HA
                simp only [i_alfillaw14_LexGoesOn.l0] at H
                by_cases c1384 : x33_0 < (a2.length : Int)
                · rw [if_pos c1384] at H
                  have c1384b0 : decide (x33_0 < (a2.length : Int)) = true := decide_eq_true c1384
                  have hc1384 := hid c1384
                  clear c1384
                  by_cases c1385 : 0 ≤ x33_0
                  · rw [if_pos c1385] at H
                    have c1385b0 : decide (0 ≤ x33_0) = true := decide_eq_true c1385
                    have hc1385 := hid c1385
                    clear c1385
                    by_cases c1386 : ((nt a2 x33_0.toNat ByteArray.empty).size : Int) > 50
                    · rw [if_pos c1386] at H
                      have c1386b0 : decide (50 < ((nt a2 x33_0.toNat ByteArray.empty).size : Int)) = true := decide_eq_true c1386
                      have c1386b1 : decide (50 < (nt a2 x33_0.toNat ByteArray.empty).size) = true := decide_eq_true (by omega)
                      have hc1386 := hid c1386
                      clear c1386
                      obtain rfl := Option.some.inj H
                      clear H
                      go_wp2_with (first
                        | ((with_reducible refine gate_d (N := 38) rfl ?_); obtain ⟨ad1337, c1387, hv1388, HCad1337_⟩ := Sl.get (l := a2) (f := Value.string) (SP2.out.below HL.out) ByteArray.empty (i := x33_0) hc1385.out hc1384.out; have HCad1337 := hid HCad1337_; clear HCad1337_; refine ag_fix (.pointer (some (ad1337.add x33_0.toNat))) (ex_sat _ _ x33_0 _ _ hv1388 hc1385.out hc1384.out us22 sT9 _ _ rfl rfl rfl) rfl ?_; clear hv1388)
                        | ((with_reducible refine gate_d (N := 39) rfl ?_); refine ag_fix (.string (nt a2 x33_0.toNat ByteArray.empty)) (ex_scell sT9 _ _ HCad1337.out _ rfl rfl) rfl ?_))
                      (try simp only [Act.put, List.setIfInBounds_toArray, List.set_cons_zero, List.set_cons_succ])
                      go_ret
                      exact ⟨by first | rfl | (simp; done) | (simp [*]; done), HL.out⟩
                    · rw [if_neg c1386] at H
                      have c1386b0 : decide (50 < ((nt a2 x33_0.toNat ByteArray.empty).size : Int)) = false := decide_eq_false c1386
                      have c1386b1 : decide (50 < (nt a2 x33_0.toNat ByteArray.empty).size) = false := decide_eq_false (by omega)
                      have hc1386 := hid c1386
                      clear c1386
                      have H' := hid H
                      clear H
                      go_wp2_with (first
                        | ((with_reducible refine gate_d (N := 38) rfl ?_); obtain ⟨ad1337, c1389, hv1390, HCad1337_⟩ := Sl.get (l := a2) (f := Value.string) (SP2.out.below HL.out) ByteArray.empty (i := x33_0) hc1385.out hc1384.out; have HCad1337 := hid HCad1337_; clear HCad1337_; refine ag_fix (.pointer (some (ad1337.add x33_0.toNat))) (ex_sat _ _ x33_0 _ _ hv1390 hc1385.out hc1384.out us22 sT9 _ _ rfl rfl rfl) rfl ?_; clear hv1390)
                        | ((with_reducible refine gate_d (N := 39) rfl ?_); refine ag_fix (.string (nt a2 x33_0.toNat ByteArray.empty)) (ex_scell sT9 _ _ HCad1337.out _ rfl rfl) rfl ?_))
                      (try simp only [Act.put, List.setIfInBounds_toArray, List.set_cons_zero, List.set_cons_succ])
                      go_roundg k1383
                      case measure => have := HK1382.out; omega
                      case rel => exact ⟨wrap64 (x33_0 + 1), (by first | rfl | (simp; done) | (simp [*]; done)), H', (hid (by first | omega | (have := HK1382.out; omega))), HL⟩
                  · rw [if_neg c1385] at H
                    exact absurd H (by simp)
                · rw [if_neg c1384] at H
                  have c1384b0 : decide (x33_0 < (a2.length : Int)) = false := decide_eq_false c1384
                  have hc1384 := hid c1384
                  clear c1384
                  replace H := Option.bind_eq_some_iff.mp H
                  obtain ⟨⟨t1338, t1339, t1340⟩, A1391_, H⟩ := H
                  replace H : (if t1340 = 2 then (if a0.size + a1.size ≤ 9223372036854775807 then ((i_lex_OneOf.f k1383 (a0 ++ a1) 0 a2).bind fun bt1342 => (if ((bt1342.1 == t1338) && ((bt1342.2.1 == t1339) && ((bt1342.2.2 == t1340)))) = true then (some true) else (some false))) else (none)) else (if t1340 = 1 then (i_alfillaw14_LexGoesOn.l1 k1383 a0 a2 0) else (if t1340 = 0 then (if a0.size + a1.size ≤ 9223372036854775807 then ((i_lex_OneOf.f k1383 (a0 ++ a1) 0 a2).bind fun bt1353 => (if ((bt1353.1 == t1338) && ((bt1353.2.1 == t1339) && ((bt1353.2.2 == t1340)))) = true then (some true) else (some false))) else (none)) else (some false)))) = some r1 := H
                  have A1391 := hid A1391_
                  clear A1391_
                  by_cases c1392 : t1340 = 2
                  · rw [if_pos c1392] at H
                    have c1392b0 : (t1340 == 2) = true := beq_iff_eq.mpr c1392
                    have c1392b1 : (t1340 != 2) = false := bne_eq_false_iff_eq.mpr c1392
                    have hc1392 := hid c1392
                    clear c1392
                    by_cases c1393 : a0.size + a1.size ≤ 9223372036854775807
                    · rw [if_pos c1393] at H
                      have hc1393 := hid c1393
                      clear c1393
                      replace H := Option.bind_eq_some_iff.mp H
                      obtain ⟨⟨t1342, t1343, t1344⟩, A1394_, H⟩ := H
                      replace H : (if ((t1342 == t1338) && ((t1343 == t1339) && ((t1344 == t1340)))) = true then (some true) else (some false)) = some r1 := H
                      have A1394 := hid A1394_
                      clear A1394_
                      by_cases c1395 : ((t1342 == t1338) && ((t1343 == t1339) && ((t1344 == t1340)))) = true
                      · rw [if_pos c1395] at H
                        have c1395b0 : ((t1342 == t1338) && ((t1343 == t1339) && ((t1344 == t1340)))) = true := c1395
                        have hc1395 := hid c1395
                        clear c1395
                        obtain rfl := Option.some.inj H
                        clear H
                        have k1396 := True.intro
                        go_wp2_with (first
                          | (go_at_call 12; clear k1396; refine (i_lex_OneOf.calls k1383 a0 0 (v2_) a2 t1338 t1339 t1340 _ (SP2.out.below HL.out) A1391.out).mono ?_; rintro e_ w1397 ⟨rfl, hb_⟩; replace HL := hid (HL.out.trans (hb_.mono HL.out.size)); clear hb_)
                          | ((with_reducible refine gate_d (N := 8) rfl ?_); obtain ⟨gb1341, hgb1341⟩ : ∃ g_, w1397.heap.size = g_ := ⟨_, rfl⟩; refine ag_alloc aT26 gb1341 hgb1341 rfl rfl ?_; intro w1398 hb_ hB_ hs_; have GEb1341 : Hid (w.heap.size ≤ gb1341) := hid (by have := HL.out.size; omega); replace HL := hid (HL.out.trans (hb_.mono GEb1341.out)); have BKb1341 := hid hB_; clear hb_ hB_ hs_ hgb1341)
                          | ((with_reducible refine gate_s (t := 26) (p := 8) rfl ?_); refine ag_store aT26 gb1341 0 #[.int .i64 0, .int .i64 0, .int .i64 0] #[.int .i64 t1338, .int .i64 t1339, .int .i64 t1340] #[.int .i64 t1338, .int .i64 t1339, .int .i64 t1340] BKb1341.out rfl (by simp) (by intro v_ hv_; simp at hv_; rcases hv_ with rfl | rfl | rfl <;> first | rfl) rfl rfl _ _ rfl rfl rfl ?_; intro w1399 ho_ hB_; replace HL := hid (ho_.below HL.out GEb1341.out); replace BKb1341 := hid hB_; clear ho_ hB_)
                          | ((with_reducible refine gate_d (N := 46) rfl ?_); refine ag_fix (.pointer (some ⟨gb1341, 2, none⟩)) (ex_field 26 2 (.pointer (some ⟨gb1341, 0, none⟩)) (.pointer (some ⟨gb1341, 2, none⟩)) (fa26_2_0 gb1341) _ rfl rfl) rfl ?_)
                          | ((with_reducible refine gate_d (N := 47) rfl ?_); refine ag_fix (.int .i64 t1340) (ex_get sT24 gb1341 (2) (.int .i64 t1340) (#[.int .i64 t1338, .int .i64 t1339, .int .i64 t1340]) BKb1341.out rfl _ rfl rfl) rfl ?_))
                        (try simp only [Act.put, List.setIfInBounds_toArray, List.set_cons_zero, List.set_cons_succ])
                        have WR64 := i64_w
                        have WR32 := i32_w
                        refine up_regionW (by kernel_rfl) (by kernel_rfl) ?_
                        refine q_do (.string a0) (fun w'_ hc_ => ex_mv (.tmp 0) (.inl rfl) _ rfl) rfl rfl ?_
                        intro ts_ ht_; simp only [List.setIfInBounds_toArray, List.set_cons_zero, List.set_cons_succ] at ht_; subst ht_
                        refine q_do (.string a1) (fun w'_ hc_ => ex_mv (.tmp 1) (.inl rfl) _ rfl) rfl rfl ?_
                        intro ts_ ht_; simp only [List.setIfInBounds_toArray, List.set_cons_zero, List.set_cons_succ] at ht_; subst ht_
                        refine q_do (.string (a0 ++ a1)) (fun w'_ hc_ => by obtain ⟨n_, hn_⟩ := hc_; exact ex_cat 9 a0 a1 hc1393.out _ _ _ rfl rfl rfl) rfl rfl ?_
                        intro ts_ ht_; simp only [List.setIfInBounds_toArray, List.set_cons_zero, List.set_cons_succ] at ht_; subst ht_
                        refine q_do (v2_) (fun w'_ hc_ => ex_mv (.tmp 2) (.inl rfl) _ rfl) rfl rfl ?_
                        intro ts_ ht_; simp only [List.setIfInBounds_toArray, List.set_cons_zero, List.set_cons_succ] at ht_; subst ht_
                        refine q_call (.agg #[.int .i64 t1342, .int .i64 t1343, .int .i64 t1344]) 12 #[.string (a0 ++ a1), .int .i64 0, v2_] (fun w'_ => by go_simp) (fun w'_ hc_ => (i_lex_OneOf.calls k1383 (a0 ++ a1) 0 (v2_) a2 t1342 t1343 t1344 _ (by obtain ⟨n_, hn_⟩ := hc_; rw [hn_]; exact ((SP2.out.below HL.out)).below n_.below) A1394.out).mono fun e_ w2_ h_ => ⟨h_.1, up_below hc_ h_.2⟩) rfl rfl ?_
                        intro ts_ ht_; simp only [List.setIfInBounds_toArray, List.set_cons_zero, List.set_cons_succ] at ht_; subst ht_
                        refine q_do (.agg #[.int .i64 t1338, .int .i64 t1339, .int .i64 t1340]) (fun w'_ hc_ => by obtain ⟨n_, hn_⟩ := hc_; exact ex_load aT26 gb1341 0 #[.int .i64 t1338, .int .i64 t1339, .int .i64 t1340] #[.int .i64 t1338, .int .i64 t1339, .int .i64 t1340] (by rw [hn_]; exact BKb1341.out.below n_.below BKb1341.out.lt) (by simp) rfl _ rfl rfl) rfl rfl ?_
                        intro ts_ ht_; simp only [List.setIfInBounds_toArray, List.set_cons_zero, List.set_cons_succ] at ht_; subst ht_
                        refine q_do (.bool true) (fun w'_ hc_ => by obtain ⟨n_, hn_⟩ := hc_; exact ex_eq .eql 26 (.agg #[.int .i64 t1342, .int .i64 t1343, .int .i64 t1344]) (.agg #[.int .i64 t1338, .int .i64 t1339, .int .i64 t1340]) (.bool true) (fun x_ y_ w_ => guard_any (by kernel_rfl) _ x_ y_ w_) (fun w_ => (eq_bin (fun d_ w2_ => eqS26 d_ w2_ t1342 t1338 t1343 t1339 t1344 t1340 ) (by decide) w_).trans (by rw [show ((t1342 == t1338) && ((t1343 == t1339) && ((t1344 == t1340)))) = true from hc1395.out])) _ _ _ rfl rfl rfl) rfl rfl ?_
                        intro ts_ ht_; simp only [List.setIfInBounds_toArray, List.set_cons_zero, List.set_cons_succ] at ht_; subst ht_
                        refine q_do (.bool true) (fun w'_ hc_ => ex_mv (.tmp 56) (.inr rfl) _ rfl) rfl rfl ?_
                        intro ts_ ht_; simp only [List.setIfInBounds_toArray, List.set_cons_zero, List.set_cons_succ] at ht_; subst ht_
                        refine q_end ?_
                        rintro w8_ ⟨n_, rfl⟩
                        replace BKb1341 := hid (BKb1341.out.below n_.below BKb1341.out.lt)
                        replace HL := hid (HL.out.trans (n_.below.mono HL.out.size))
                        generalize n_.world = w1400 at *
                        clear n_ WR64 WR32
                        go_wp2_with fail
                        (try simp only [Act.put, List.setIfInBounds_toArray, List.set_cons_zero, List.set_cons_succ])
                        go_ret
                        exact ⟨by first | rfl | (simp; done) | (simp [*]; done), HL.out⟩
                      · rw [if_neg c1395] at H
                        have c1395b0 : ((t1342 == t1338) && ((t1343 == t1339) && ((t1344 == t1340)))) = false := by simpa using c1395
                        have hc1395 := hid c1395
                        clear c1395
                        obtain rfl := Option.some.inj H
                        clear H
                        have k1401 := True.intro
                        go_wp2_with (first
                          | (go_at_call 12; clear k1401; refine (i_lex_OneOf.calls k1383 a0 0 (v2_) a2 t1338 t1339 t1340 _ (SP2.out.below HL.out) A1391.out).mono ?_; rintro e_ w1402 ⟨rfl, hb_⟩; replace HL := hid (HL.out.trans (hb_.mono HL.out.size)); clear hb_)
                          | ((with_reducible refine gate_d (N := 8) rfl ?_); obtain ⟨gb1341, hgb1341⟩ : ∃ g_, w1402.heap.size = g_ := ⟨_, rfl⟩; refine ag_alloc aT26 gb1341 hgb1341 rfl rfl ?_; intro w1403 hb_ hB_ hs_; have GEb1341 : Hid (w.heap.size ≤ gb1341) := hid (by have := HL.out.size; omega); replace HL := hid (HL.out.trans (hb_.mono GEb1341.out)); have BKb1341 := hid hB_; clear hb_ hB_ hs_ hgb1341)
                          | ((with_reducible refine gate_s (t := 26) (p := 8) rfl ?_); refine ag_store aT26 gb1341 0 #[.int .i64 0, .int .i64 0, .int .i64 0] #[.int .i64 t1338, .int .i64 t1339, .int .i64 t1340] #[.int .i64 t1338, .int .i64 t1339, .int .i64 t1340] BKb1341.out rfl (by simp) (by intro v_ hv_; simp at hv_; rcases hv_ with rfl | rfl | rfl <;> first | rfl) rfl rfl _ _ rfl rfl rfl ?_; intro w1404 ho_ hB_; replace HL := hid (ho_.below HL.out GEb1341.out); replace BKb1341 := hid hB_; clear ho_ hB_)
                          | ((with_reducible refine gate_d (N := 46) rfl ?_); refine ag_fix (.pointer (some ⟨gb1341, 2, none⟩)) (ex_field 26 2 (.pointer (some ⟨gb1341, 0, none⟩)) (.pointer (some ⟨gb1341, 2, none⟩)) (fa26_2_0 gb1341) _ rfl rfl) rfl ?_)
                          | ((with_reducible refine gate_d (N := 47) rfl ?_); refine ag_fix (.int .i64 t1340) (ex_get sT24 gb1341 (2) (.int .i64 t1340) (#[.int .i64 t1338, .int .i64 t1339, .int .i64 t1340]) BKb1341.out rfl _ rfl rfl) rfl ?_))
                        (try simp only [Act.put, List.setIfInBounds_toArray, List.set_cons_zero, List.set_cons_succ])
                        have WR64 := i64_w
                        have WR32 := i32_w
                        refine up_regionW (by kernel_rfl) (by kernel_rfl) ?_
                        refine q_do (.string a0) (fun w'_ hc_ => ex_mv (.tmp 0) (.inl rfl) _ rfl) rfl rfl ?_
                        intro ts_ ht_; simp only [List.setIfInBounds_toArray, List.set_cons_zero, List.set_cons_succ] at ht_; subst ht_
                        refine q_do (.string a1) (fun w'_ hc_ => ex_mv (.tmp 1) (.inl rfl) _ rfl) rfl rfl ?_
                        intro ts_ ht_; simp only [List.setIfInBounds_toArray, List.set_cons_zero, List.set_cons_succ] at ht_; subst ht_
                        refine q_do (.string (a0 ++ a1)) (fun w'_ hc_ => by obtain ⟨n_, hn_⟩ := hc_; exact ex_cat 9 a0 a1 hc1393.out _ _ _ rfl rfl rfl) rfl rfl ?_
                        intro ts_ ht_; simp only [List.setIfInBounds_toArray, List.set_cons_zero, List.set_cons_succ] at ht_; subst ht_
                        refine q_do (v2_) (fun w'_ hc_ => ex_mv (.tmp 2) (.inl rfl) _ rfl) rfl rfl ?_
                        intro ts_ ht_; simp only [List.setIfInBounds_toArray, List.set_cons_zero, List.set_cons_succ] at ht_; subst ht_
                        refine q_call (.agg #[.int .i64 t1342, .int .i64 t1343, .int .i64 t1344]) 12 #[.string (a0 ++ a1), .int .i64 0, v2_] (fun w'_ => by go_simp) (fun w'_ hc_ => (i_lex_OneOf.calls k1383 (a0 ++ a1) 0 (v2_) a2 t1342 t1343 t1344 _ (by obtain ⟨n_, hn_⟩ := hc_; rw [hn_]; exact ((SP2.out.below HL.out)).below n_.below) A1394.out).mono fun e_ w2_ h_ => ⟨h_.1, up_below hc_ h_.2⟩) rfl rfl ?_
                        intro ts_ ht_; simp only [List.setIfInBounds_toArray, List.set_cons_zero, List.set_cons_succ] at ht_; subst ht_
                        refine q_do (.agg #[.int .i64 t1338, .int .i64 t1339, .int .i64 t1340]) (fun w'_ hc_ => by obtain ⟨n_, hn_⟩ := hc_; exact ex_load aT26 gb1341 0 #[.int .i64 t1338, .int .i64 t1339, .int .i64 t1340] #[.int .i64 t1338, .int .i64 t1339, .int .i64 t1340] (by rw [hn_]; exact BKb1341.out.below n_.below BKb1341.out.lt) (by simp) rfl _ rfl rfl) rfl rfl ?_
                        intro ts_ ht_; simp only [List.setIfInBounds_toArray, List.set_cons_zero, List.set_cons_succ] at ht_; subst ht_
                        refine q_do (.bool false) (fun w'_ hc_ => by obtain ⟨n_, hn_⟩ := hc_; exact ex_eq .eql 26 (.agg #[.int .i64 t1342, .int .i64 t1343, .int .i64 t1344]) (.agg #[.int .i64 t1338, .int .i64 t1339, .int .i64 t1340]) (.bool false) (fun x_ y_ w_ => guard_any (by kernel_rfl) _ x_ y_ w_) (fun w_ => (eq_bin (fun d_ w2_ => eqS26 d_ w2_ t1342 t1338 t1343 t1339 t1344 t1340 ) (by decide) w_).trans (by rw [show ((t1342 == t1338) && ((t1343 == t1339) && ((t1344 == t1340)))) = false from Bool.eq_false_iff.mpr hc1395.out])) _ _ _ rfl rfl rfl) rfl rfl ?_
                        intro ts_ ht_; simp only [List.setIfInBounds_toArray, List.set_cons_zero, List.set_cons_succ] at ht_; subst ht_
                        refine q_do (.bool false) (fun w'_ hc_ => ex_mv (.tmp 56) (.inr rfl) _ rfl) rfl rfl ?_
                        intro ts_ ht_; simp only [List.setIfInBounds_toArray, List.set_cons_zero, List.set_cons_succ] at ht_; subst ht_
                        refine q_end ?_
                        rintro w8_ ⟨n_, rfl⟩
                        replace BKb1341 := hid (BKb1341.out.below n_.below BKb1341.out.lt)
                        replace HL := hid (HL.out.trans (n_.below.mono HL.out.size))
                        generalize n_.world = w1405 at *
                        clear n_ WR64 WR32
                        go_wp2_with fail
                        (try simp only [Act.put, List.setIfInBounds_toArray, List.set_cons_zero, List.set_cons_succ])
                        go_ret
                        exact ⟨by first | rfl | (simp; done) | (simp [*]; done), HL.out⟩
                    · rw [if_neg c1393] at H
                      exact absurd H (by simp)
                  · rw [if_neg c1392] at H
                    have c1392b0 : (t1340 == 2) = false := beq_eq_false_iff_ne.mpr c1392
                    have c1392b1 : (t1340 != 2) = true := bne_iff_ne.mpr c1392
                    have hc1392 := hid c1392
                    clear c1392
                    by_cases c1406 : t1340 = 1
                    · rw [if_pos c1406] at H
                      have c1406b0 : (t1340 == 1) = true := beq_iff_eq.mpr c1406
                      have c1406b1 : (t1340 != 1) = false := bne_eq_false_iff_eq.mpr c1406
                      have hc1406 := hid c1406
                      clear c1406
                      have H' := hid H
                      clear H
                      have k1407 := True.intro
                      go_wp2_with (first
                        | (go_at_call 12; clear k1407; refine (i_lex_OneOf.calls k1383 a0 0 (v2_) a2 t1338 t1339 t1340 _ (SP2.out.below HL.out) A1391.out).mono ?_; rintro e_ w1408 ⟨rfl, hb_⟩; replace HL := hid (HL.out.trans (hb_.mono HL.out.size)); clear hb_)
                        | ((with_reducible refine gate_d (N := 8) rfl ?_); obtain ⟨gb1341, hgb1341⟩ : ∃ g_, w1408.heap.size = g_ := ⟨_, rfl⟩; refine ag_alloc aT26 gb1341 hgb1341 rfl rfl ?_; intro w1409 hb_ hB_ hs_; have GEb1341 : Hid (w.heap.size ≤ gb1341) := hid (by have := HL.out.size; omega); replace HL := hid (HL.out.trans (hb_.mono GEb1341.out)); have BKb1341 := hid hB_; clear hb_ hB_ hs_ hgb1341)
                        | ((with_reducible refine gate_s (t := 26) (p := 8) rfl ?_); refine ag_store aT26 gb1341 0 #[.int .i64 0, .int .i64 0, .int .i64 0] #[.int .i64 t1338, .int .i64 t1339, .int .i64 t1340] #[.int .i64 t1338, .int .i64 t1339, .int .i64 t1340] BKb1341.out rfl (by simp) (by intro v_ hv_; simp at hv_; rcases hv_ with rfl | rfl | rfl <;> first | rfl) rfl rfl _ _ rfl rfl rfl ?_; intro w1410 ho_ hB_; replace HL := hid (ho_.below HL.out GEb1341.out); replace BKb1341 := hid hB_; clear ho_ hB_)
                        | ((with_reducible refine gate_d (N := 46) rfl ?_); refine ag_fix (.pointer (some ⟨gb1341, 2, none⟩)) (ex_field 26 2 (.pointer (some ⟨gb1341, 0, none⟩)) (.pointer (some ⟨gb1341, 2, none⟩)) (fa26_2_0 gb1341) _ rfl rfl) rfl ?_)
                        | ((with_reducible refine gate_d (N := 47) rfl ?_); refine ag_fix (.int .i64 t1340) (ex_get sT24 gb1341 (2) (.int .i64 t1340) (#[.int .i64 t1338, .int .i64 t1339, .int .i64 t1340]) BKb1341.out rfl _ rfl rfl) rfl ?_)
                        | ((with_reducible refine gate_d (N := 60) rfl ?_); obtain ⟨A1411, c1412, hv1413⟩ := (SP2.out.below HL.out).shape; rw [List.length_map] at hv1413; refine ag_fix (.int .i64 (a2.length : Int)) (ex_len us22 _ _ _ _ hv1413 _ rfl rfl) rfl ?_; clear hv1413))
                      (try simp only [Act.put, List.setIfInBounds_toArray, List.set_cons_zero, List.set_cons_succ])
                      go_loopg [61] k1383 (fun kq v61 w' => ∃ (x61_1 : Int), v61 = .int .i64 x61_1 ∧ Hid (i_alfillaw14_LexGoesOn.l1 kq a0 a2 x61_1 = some r1) ∧ Hid (kq ≤ k1383) ∧ Hid (Blk w' gb1341 26 #[.int .i64 t1338, .int .i64 t1339, .int .i64 t1340]) ∧ Hid (Below w.heap.size w w'))
                      case atStart => exact ⟨(0 : Int), (by first | rfl | (simp; done) | (simp [*]; done)), H', (hid (by first | omega | (have := HK1382.out; omega))), (hid (by exact BKb1341.out)), HL⟩
                      case round =>
                        clear H'
                        clear HL BKb1341
                        obtain ⟨x61_1, rfl, HA, HK1414, BKb1341, HL⟩ := hrel
                        cases gk with
                        | zero => exact absurd HA.out (by simp [i_alfillaw14_LexGoesOn.l1])
                        | succ k1415 =>
                          have H := HA.out
                          clear HA
                          simp only [i_alfillaw14_LexGoesOn.l1] at H
                          by_cases c1416 : x61_1 < (a2.length : Int)
                          · rw [if_pos c1416] at H
                            have c1416b0 : decide (x61_1 < (a2.length : Int)) = true := decide_eq_true c1416
                            have hc1416 := hid c1416
                            clear c1416
                            by_cases c1417 : 0 ≤ x61_1
                            · rw [if_pos c1417] at H
                              have c1417b0 : decide (0 ≤ x61_1) = true := decide_eq_true c1417
                              have hc1417 := hid c1417
                              clear c1417
                              by_cases c1418 : ((nt a2 x61_1.toNat ByteArray.empty).size : Int) > (a0.size : Int)
                              · rw [if_pos c1418] at H
                                have c1418b0 : decide ((a0.size : Int) < ((nt a2 x61_1.toNat ByteArray.empty).size : Int)) = true := decide_eq_true c1418
                                have c1418b1 : decide (a0.size < (nt a2 x61_1.toNat ByteArray.empty).size) = true := decide_eq_true (Int.ofNat_lt.mp c1418)
                                have hc1418 := hid c1418
                                clear c1418
                                by_cases c1419 : 0 ≤ (a0.size : Int)
                                · rw [if_pos c1419] at H
                                  have c1419b0 : decide (0 ≤ (a0.size : Int)) = true := decide_eq_true c1419
                                  have c1419b1 : decide (0 ≤ a0.size) = true := decide_eq_true (by omega)
                                  have hc1419 := hid c1419
                                  clear c1419
                                  by_cases c1420 : (a0.size : Int) ≤ ((nt a2 x61_1.toNat ByteArray.empty).size : Int)
                                  · rw [if_pos c1420] at H
                                    have c1420b0 : decide ((a0.size : Int) ≤ ((nt a2 x61_1.toNat ByteArray.empty).size : Int)) = true := decide_eq_true c1420
                                    have c1420b1 : decide (a0.size ≤ (nt a2 x61_1.toNat ByteArray.empty).size) = true := decide_eq_true (Int.ofNat_le.mp c1420)
                                    have hc1420 := hid c1420
                                    clear c1420
                                    by_cases c1421 : ((nt a2 x61_1.toNat ByteArray.empty).extract 0 a0.size).toList = a0.toList
                                    · rw [if_pos c1421] at H
                                      have c1421b0 : (((nt a2 x61_1.toNat ByteArray.empty).extract 0 a0.size).toList == a0.toList) = true := beq_iff_eq.mpr c1421
                                      have c1421b1 : (((nt a2 x61_1.toNat ByteArray.empty).extract 0 a0.size).toList != a0.toList) = false := bne_eq_false_iff_eq.mpr c1421
                                      have hc1421 := hid c1421
                                      clear c1421
                                      replace H := Option.bind_eq_some_iff.mp H
                                      obtain ⟨⟨t1350, t1351, t1352⟩, A1422_, H⟩ := H
                                      replace H : (some (t1352 == 0)) = some r1 := H
                                      have A1422 := hid A1422_
                                      clear A1422_
                                      obtain rfl := Option.some.inj H
                                      clear H
                                      have k1425 := True.intro
                                      go_wp2_with (first
                                        | ((with_reducible refine gate_d (N := 63) rfl ?_); obtain ⟨ad1349, c1423, hv1424, HCad1349_⟩ := Sl.get (l := a2) (f := Value.string) (SP2.out.below HL.out) ByteArray.empty (i := x61_1) hc1417.out hc1416.out; have HCad1349 := hid HCad1349_; clear HCad1349_; refine ag_fix (.pointer (some (ad1349.add x61_1.toNat))) (ex_sat _ _ x61_1 _ _ hv1424 hc1417.out hc1416.out us22 sT9 _ _ rfl rfl rfl) rfl ?_; clear hv1424)
                                        | ((with_reducible refine gate_d (N := 64) rfl ?_); refine ag_fix (.string (nt a2 x61_1.toNat ByteArray.empty)) (ex_scell sT9 _ _ HCad1349.out _ rfl rfl) rfl ?_)
                                        | ((with_reducible refine gate_d (N := 74) rfl ?_); refine ag_fix (.string ((nt a2 x61_1.toNat ByteArray.empty).extract 0 a0.size)) (ex_cut_h 9 und_txt (nt a2 x61_1.toNat ByteArray.empty) (a0.size : Int) hc1419.out hc1420.out _ _ rfl rfl rfl) rfl ?_)
                                        | (go_at_call 12; clear k1425; refine (i_lex_OneOf.calls k1415 (nt a2 x61_1.toNat ByteArray.empty) 0 (v2_) a2 t1350 t1351 t1352 _ (SP2.out.below HL.out) A1422.out).mono ?_; rintro e_ w1426 ⟨rfl, hb_⟩; replace BKb1341 := hid (BKb1341.out.below hb_ BKb1341.out.lt); replace HL := hid (HL.out.trans (hb_.mono HL.out.size)); clear hb_)
                                        | ((with_reducible refine gate_d (N := 81) rfl ?_); refine ag_fix (.int .i64 t1352) (ex_fld 26 2 (.agg #[.int .i64 t1350, .int .i64 t1351, .int .i64 t1352]) (.int .i64 t1352) (fv26_2 _ _ _) _ rfl rfl) rfl ?_))
                                      (try simp only [Act.put, List.setIfInBounds_toArray, List.set_cons_zero, List.set_cons_succ])
                                      go_ret
                                      exact ⟨by first | rfl | (simp; done) | (simp [*]; done), HL.out⟩
                                    · rw [if_neg c1421] at H
                                      have c1421b0 : (((nt a2 x61_1.toNat ByteArray.empty).extract 0 a0.size).toList == a0.toList) = false := beq_eq_false_iff_ne.mpr c1421
                                      have c1421b1 : (((nt a2 x61_1.toNat ByteArray.empty).extract 0 a0.size).toList != a0.toList) = true := bne_iff_ne.mpr c1421
                                      have hc1421 := hid c1421
                                      clear c1421
                                      have H' := hid H
                                      clear H
                                      go_wp2_with (first
                                        | ((with_reducible refine gate_d (N := 63) rfl ?_); obtain ⟨ad1349, c1427, hv1428, HCad1349_⟩ := Sl.get (l := a2) (f := Value.string) (SP2.out.below HL.out) ByteArray.empty (i := x61_1) hc1417.out hc1416.out; have HCad1349 := hid HCad1349_; clear HCad1349_; refine ag_fix (.pointer (some (ad1349.add x61_1.toNat))) (ex_sat _ _ x61_1 _ _ hv1428 hc1417.out hc1416.out us22 sT9 _ _ rfl rfl rfl) rfl ?_; clear hv1428)
                                        | ((with_reducible refine gate_d (N := 64) rfl ?_); refine ag_fix (.string (nt a2 x61_1.toNat ByteArray.empty)) (ex_scell sT9 _ _ HCad1349.out _ rfl rfl) rfl ?_)
                                        | ((with_reducible refine gate_d (N := 74) rfl ?_); refine ag_fix (.string ((nt a2 x61_1.toNat ByteArray.empty).extract 0 a0.size)) (ex_cut_h 9 und_txt (nt a2 x61_1.toNat ByteArray.empty) (a0.size : Int) hc1419.out hc1420.out _ _ rfl rfl rfl) rfl ?_))
                                      (try simp only [Act.put, List.setIfInBounds_toArray, List.set_cons_zero, List.set_cons_succ])
                                      go_roundg k1415
                                      case measure => have := HK1382.out; have := HK1414.out; omega
                                      case rel => exact ⟨wrap64 (x61_1 + 1), (by first | rfl | (simp; done) | (simp [*]; done)), H', (hid (by first | omega | (have := HK1382.out; have := HK1414.out; omega))), (hid (by exact BKb1341.out)), HL⟩
                                  · rw [if_neg c1420] at H
                                    exact absurd H (by simp)
                                · rw [if_neg c1419] at H
                                  exact absurd H (by simp)
                              · rw [if_neg c1418] at H
                                have c1418b0 : decide ((a0.size : Int) < ((nt a2 x61_1.toNat ByteArray.empty).size : Int)) = false := decide_eq_false c1418
                                have c1418b1 : decide (a0.size < (nt a2 x61_1.toNat ByteArray.empty).size) = false := decide_eq_false (fun h => c1418 (Int.ofNat_lt.mpr h))
                                have hc1418 := hid c1418
                                clear c1418
                                have H' := hid H
                                clear H
                                go_wp2_with (first
                                  | ((with_reducible refine gate_d (N := 63) rfl ?_); obtain ⟨ad1349, c1429, hv1430, HCad1349_⟩ := Sl.get (l := a2) (f := Value.string) (SP2.out.below HL.out) ByteArray.empty (i := x61_1) hc1417.out hc1416.out; have HCad1349 := hid HCad1349_; clear HCad1349_; refine ag_fix (.pointer (some (ad1349.add x61_1.toNat))) (ex_sat _ _ x61_1 _ _ hv1430 hc1417.out hc1416.out us22 sT9 _ _ rfl rfl rfl) rfl ?_; clear hv1430)
                                  | ((with_reducible refine gate_d (N := 64) rfl ?_); refine ag_fix (.string (nt a2 x61_1.toNat ByteArray.empty)) (ex_scell sT9 _ _ HCad1349.out _ rfl rfl) rfl ?_))
                                (try simp only [Act.put, List.setIfInBounds_toArray, List.set_cons_zero, List.set_cons_succ])
                                go_roundg k1415
                                case measure => have := HK1382.out; have := HK1414.out; omega
                                case rel => exact ⟨wrap64 (x61_1 + 1), (by first | rfl | (simp; done) | (simp [*]; done)), H', (hid (by first | omega | (have := HK1382.out; have := HK1414.out; omega))), (hid (by exact BKb1341.out)), HL⟩
                            · rw [if_neg c1417] at H
                              exact absurd H (by simp)
                          · rw [if_neg c1416] at H
                            have c1416b0 : decide (x61_1 < (a2.length : Int)) = false := decide_eq_false c1416
                            have hc1416 := hid c1416
                            clear c1416
                            obtain rfl := Option.some.inj H
                            clear H
                            go_wp2_with fail
                            (try simp only [Act.put, List.setIfInBounds_toArray, List.set_cons_zero, List.set_cons_succ])
                            go_ret
                            exact ⟨by first | rfl | (simp; done) | (simp [*]; done), HL.out⟩
                    · rw [if_neg c1406] at H
                      have c1406b0 : (t1340 == 1) = false := beq_eq_false_iff_ne.mpr c1406
                      have c1406b1 : (t1340 != 1) = true := bne_iff_ne.mpr c1406
                      have hc1406 := hid c1406
                      clear c1406
                      by_cases c1431 : t1340 = 0
                      · rw [if_pos c1431] at H
                        have c1431b0 : (t1340 == 0) = true := beq_iff_eq.mpr c1431
                        have c1431b1 : (t1340 != 0) = false := bne_eq_false_iff_eq.mpr c1431
                        have hc1431 := hid c1431
                        clear c1431
                        by_cases c1432 : a0.size + a1.size ≤ 9223372036854775807
                        · rw [if_pos c1432] at H
                          have hc1432 := hid c1432
                          clear c1432
                          replace H := Option.bind_eq_some_iff.mp H
                          obtain ⟨⟨t1353, t1354, t1355⟩, A1433_, H⟩ := H
                          replace H : (if ((t1353 == t1338) && ((t1354 == t1339) && ((t1355 == t1340)))) = true then (some true) else (some false)) = some r1 := H
                          have A1433 := hid A1433_
                          clear A1433_
                          by_cases c1434 : ((t1353 == t1338) && ((t1354 == t1339) && ((t1355 == t1340)))) = true
                          · rw [if_pos c1434] at H
                            have c1434b0 : ((t1353 == t1338) && ((t1354 == t1339) && ((t1355 == t1340)))) = true := c1434
                            have hc1434 := hid c1434
                            clear c1434
                            obtain rfl := Option.some.inj H
                            clear H
                            have k1435 := True.intro
                            go_wp2_with (first
                              | (go_at_call 12; clear k1435; refine (i_lex_OneOf.calls k1383 a0 0 (v2_) a2 t1338 t1339 t1340 _ (SP2.out.below HL.out) A1391.out).mono ?_; rintro e_ w1436 ⟨rfl, hb_⟩; replace HL := hid (HL.out.trans (hb_.mono HL.out.size)); clear hb_)
                              | ((with_reducible refine gate_d (N := 8) rfl ?_); obtain ⟨gb1341, hgb1341⟩ : ∃ g_, w1436.heap.size = g_ := ⟨_, rfl⟩; refine ag_alloc aT26 gb1341 hgb1341 rfl rfl ?_; intro w1437 hb_ hB_ hs_; have GEb1341 : Hid (w.heap.size ≤ gb1341) := hid (by have := HL.out.size; omega); replace HL := hid (HL.out.trans (hb_.mono GEb1341.out)); have BKb1341 := hid hB_; clear hb_ hB_ hs_ hgb1341)
                              | ((with_reducible refine gate_s (t := 26) (p := 8) rfl ?_); refine ag_store aT26 gb1341 0 #[.int .i64 0, .int .i64 0, .int .i64 0] #[.int .i64 t1338, .int .i64 t1339, .int .i64 t1340] #[.int .i64 t1338, .int .i64 t1339, .int .i64 t1340] BKb1341.out rfl (by simp) (by intro v_ hv_; simp at hv_; rcases hv_ with rfl | rfl | rfl <;> first | rfl) rfl rfl _ _ rfl rfl rfl ?_; intro w1438 ho_ hB_; replace HL := hid (ho_.below HL.out GEb1341.out); replace BKb1341 := hid hB_; clear ho_ hB_)
                              | ((with_reducible refine gate_d (N := 46) rfl ?_); refine ag_fix (.pointer (some ⟨gb1341, 2, none⟩)) (ex_field 26 2 (.pointer (some ⟨gb1341, 0, none⟩)) (.pointer (some ⟨gb1341, 2, none⟩)) (fa26_2_0 gb1341) _ rfl rfl) rfl ?_)
                              | ((with_reducible refine gate_d (N := 47) rfl ?_); refine ag_fix (.int .i64 t1340) (ex_get sT24 gb1341 (2) (.int .i64 t1340) (#[.int .i64 t1338, .int .i64 t1339, .int .i64 t1340]) BKb1341.out rfl _ rfl rfl) rfl ?_))
                            (try simp only [Act.put, List.setIfInBounds_toArray, List.set_cons_zero, List.set_cons_succ])
                            have WR64 := i64_w
                            have WR32 := i32_w
                            refine up_regionW (by kernel_rfl) (by kernel_rfl) ?_
                            refine q_do (.pointer (some ⟨gb1341, 2, none⟩)) (fun w'_ hc_ => by obtain ⟨n_, hn_⟩ := hc_; exact ex_field 26 2 (.pointer (some ⟨gb1341, 0, none⟩)) (.pointer (some ⟨gb1341, 2, none⟩)) (fa26_2_0 gb1341) _ rfl rfl) rfl rfl ?_
                            intro ts_ ht_; simp only [List.setIfInBounds_toArray, List.set_cons_zero, List.set_cons_succ] at ht_; subst ht_
                            refine q_do (.int .i64 t1340) (fun w'_ hc_ => by obtain ⟨n_, hn_⟩ := hc_; exact ex_get sT24 gb1341 (2) (.int .i64 t1340) (#[.int .i64 t1338, .int .i64 t1339, .int .i64 t1340]) (by rw [hn_]; exact BKb1341.out.below n_.below BKb1341.out.lt) rfl _ rfl rfl) rfl rfl ?_
                            intro ts_ ht_; simp only [List.setIfInBounds_toArray, List.set_cons_zero, List.set_cons_succ] at ht_; subst ht_
                            refine q_do (.bool true) (fun w'_ hc_ => by go_simp) rfl rfl ?_
                            intro ts_ ht_; simp only [List.setIfInBounds_toArray, List.set_cons_zero, List.set_cons_succ] at ht_; subst ht_
                            refine q_do (.bool true) (fun w'_ hc_ => ex_mv (.tmp 86) (.inl rfl) _ rfl) rfl rfl ?_
                            intro ts_ ht_; simp only [List.setIfInBounds_toArray, List.set_cons_zero, List.set_cons_succ] at ht_; subst ht_
                            refine q_do (.string a0) (fun w'_ hc_ => ex_mv (.tmp 0) (.inl rfl) _ rfl) rfl rfl ?_
                            intro ts_ ht_; simp only [List.setIfInBounds_toArray, List.set_cons_zero, List.set_cons_succ] at ht_; subst ht_
                            refine q_do (.string a1) (fun w'_ hc_ => ex_mv (.tmp 1) (.inl rfl) _ rfl) rfl rfl ?_
                            intro ts_ ht_; simp only [List.setIfInBounds_toArray, List.set_cons_zero, List.set_cons_succ] at ht_; subst ht_
                            refine q_do (.string (a0 ++ a1)) (fun w'_ hc_ => by obtain ⟨n_, hn_⟩ := hc_; exact ex_cat 9 a0 a1 hc1432.out _ _ _ rfl rfl rfl) rfl rfl ?_
                            intro ts_ ht_; simp only [List.setIfInBounds_toArray, List.set_cons_zero, List.set_cons_succ] at ht_; subst ht_
                            refine q_do (v2_) (fun w'_ hc_ => ex_mv (.tmp 2) (.inl rfl) _ rfl) rfl rfl ?_
                            intro ts_ ht_; simp only [List.setIfInBounds_toArray, List.set_cons_zero, List.set_cons_succ] at ht_; subst ht_
                            refine q_call (.agg #[.int .i64 t1353, .int .i64 t1354, .int .i64 t1355]) 12 #[.string (a0 ++ a1), .int .i64 0, v2_] (fun w'_ => by go_simp) (fun w'_ hc_ => (i_lex_OneOf.calls k1383 (a0 ++ a1) 0 (v2_) a2 t1353 t1354 t1355 _ (by obtain ⟨n_, hn_⟩ := hc_; rw [hn_]; exact ((SP2.out.below HL.out)).below n_.below) A1433.out).mono fun e_ w2_ h_ => ⟨h_.1, up_below hc_ h_.2⟩) rfl rfl ?_
                            intro ts_ ht_; simp only [List.setIfInBounds_toArray, List.set_cons_zero, List.set_cons_succ] at ht_; subst ht_
                            refine q_do (.agg #[.int .i64 t1338, .int .i64 t1339, .int .i64 t1340]) (fun w'_ hc_ => by obtain ⟨n_, hn_⟩ := hc_; exact ex_load aT26 gb1341 0 #[.int .i64 t1338, .int .i64 t1339, .int .i64 t1340] #[.int .i64 t1338, .int .i64 t1339, .int .i64 t1340] (by rw [hn_]; exact BKb1341.out.below n_.below BKb1341.out.lt) (by simp) rfl _ rfl rfl) rfl rfl ?_
                            intro ts_ ht_; simp only [List.setIfInBounds_toArray, List.set_cons_zero, List.set_cons_succ] at ht_; subst ht_
                            refine q_do (.bool true) (fun w'_ hc_ => by obtain ⟨n_, hn_⟩ := hc_; exact ex_eq .eql 26 (.agg #[.int .i64 t1353, .int .i64 t1354, .int .i64 t1355]) (.agg #[.int .i64 t1338, .int .i64 t1339, .int .i64 t1340]) (.bool true) (fun x_ y_ w_ => guard_any (by kernel_rfl) _ x_ y_ w_) (fun w_ => (eq_bin (fun d_ w2_ => eqS26 d_ w2_ t1353 t1338 t1354 t1339 t1355 t1340 ) (by decide) w_).trans (by rw [show ((t1353 == t1338) && ((t1354 == t1339) && ((t1355 == t1340)))) = true from hc1434.out])) _ _ _ rfl rfl rfl) rfl rfl ?_
                            intro ts_ ht_; simp only [List.setIfInBounds_toArray, List.set_cons_zero, List.set_cons_succ] at ht_; subst ht_
                            refine q_do (.bool true) (fun w'_ hc_ => by go_simp) rfl rfl ?_
                            intro ts_ ht_; simp only [List.setIfInBounds_toArray, List.set_cons_zero, List.set_cons_succ] at ht_; subst ht_
                            refine q_do (.bool true) (fun w'_ hc_ => ex_mv (.tmp 95) (.inr rfl) _ rfl) rfl rfl ?_
                            intro ts_ ht_; simp only [List.setIfInBounds_toArray, List.set_cons_zero, List.set_cons_succ] at ht_; subst ht_
                            refine q_end ?_
                            rintro w8_ ⟨n_, rfl⟩
                            replace BKb1341 := hid (BKb1341.out.below n_.below BKb1341.out.lt)
                            replace HL := hid (HL.out.trans (n_.below.mono HL.out.size))
                            generalize n_.world = w1439 at *
                            clear n_ WR64 WR32
                            go_wp2_with fail
                            (try simp only [Act.put, List.setIfInBounds_toArray, List.set_cons_zero, List.set_cons_succ])
                            go_ret
                            exact ⟨by first | rfl | (simp; done) | (simp [*]; done), HL.out⟩
                          · rw [if_neg c1434] at H
                            have c1434b0 : ((t1353 == t1338) && ((t1354 == t1339) && ((t1355 == t1340)))) = false := by simpa using c1434
                            have hc1434 := hid c1434
                            clear c1434
                            obtain rfl := Option.some.inj H
                            clear H
                            have k1440 := True.intro
                            go_wp2_with (first
                              | (go_at_call 12; clear k1440; refine (i_lex_OneOf.calls k1383 a0 0 (v2_) a2 t1338 t1339 t1340 _ (SP2.out.below HL.out) A1391.out).mono ?_; rintro e_ w1441 ⟨rfl, hb_⟩; replace HL := hid (HL.out.trans (hb_.mono HL.out.size)); clear hb_)
                              | ((with_reducible refine gate_d (N := 8) rfl ?_); obtain ⟨gb1341, hgb1341⟩ : ∃ g_, w1441.heap.size = g_ := ⟨_, rfl⟩; refine ag_alloc aT26 gb1341 hgb1341 rfl rfl ?_; intro w1442 hb_ hB_ hs_; have GEb1341 : Hid (w.heap.size ≤ gb1341) := hid (by have := HL.out.size; omega); replace HL := hid (HL.out.trans (hb_.mono GEb1341.out)); have BKb1341 := hid hB_; clear hb_ hB_ hs_ hgb1341)
                              | ((with_reducible refine gate_s (t := 26) (p := 8) rfl ?_); refine ag_store aT26 gb1341 0 #[.int .i64 0, .int .i64 0, .int .i64 0] #[.int .i64 t1338, .int .i64 t1339, .int .i64 t1340] #[.int .i64 t1338, .int .i64 t1339, .int .i64 t1340] BKb1341.out rfl (by simp) (by intro v_ hv_; simp at hv_; rcases hv_ with rfl | rfl | rfl <;> first | rfl) rfl rfl _ _ rfl rfl rfl ?_; intro w1443 ho_ hB_; replace HL := hid (ho_.below HL.out GEb1341.out); replace BKb1341 := hid hB_; clear ho_ hB_)
                              | ((with_reducible refine gate_d (N := 46) rfl ?_); refine ag_fix (.pointer (some ⟨gb1341, 2, none⟩)) (ex_field 26 2 (.pointer (some ⟨gb1341, 0, none⟩)) (.pointer (some ⟨gb1341, 2, none⟩)) (fa26_2_0 gb1341) _ rfl rfl) rfl ?_)
                              | ((with_reducible refine gate_d (N := 47) rfl ?_); refine ag_fix (.int .i64 t1340) (ex_get sT24 gb1341 (2) (.int .i64 t1340) (#[.int .i64 t1338, .int .i64 t1339, .int .i64 t1340]) BKb1341.out rfl _ rfl rfl) rfl ?_))
                            (try simp only [Act.put, List.setIfInBounds_toArray, List.set_cons_zero, List.set_cons_succ])
                            have WR64 := i64_w
                            have WR32 := i32_w
                            refine up_regionW (by kernel_rfl) (by kernel_rfl) ?_
                            refine q_do (.pointer (some ⟨gb1341, 2, none⟩)) (fun w'_ hc_ => by obtain ⟨n_, hn_⟩ := hc_; exact ex_field 26 2 (.pointer (some ⟨gb1341, 0, none⟩)) (.pointer (some ⟨gb1341, 2, none⟩)) (fa26_2_0 gb1341) _ rfl rfl) rfl rfl ?_
                            intro ts_ ht_; simp only [List.setIfInBounds_toArray, List.set_cons_zero, List.set_cons_succ] at ht_; subst ht_
                            refine q_do (.int .i64 t1340) (fun w'_ hc_ => by obtain ⟨n_, hn_⟩ := hc_; exact ex_get sT24 gb1341 (2) (.int .i64 t1340) (#[.int .i64 t1338, .int .i64 t1339, .int .i64 t1340]) (by rw [hn_]; exact BKb1341.out.below n_.below BKb1341.out.lt) rfl _ rfl rfl) rfl rfl ?_
                            intro ts_ ht_; simp only [List.setIfInBounds_toArray, List.set_cons_zero, List.set_cons_succ] at ht_; subst ht_
                            refine q_do (.bool true) (fun w'_ hc_ => by go_simp) rfl rfl ?_
                            intro ts_ ht_; simp only [List.setIfInBounds_toArray, List.set_cons_zero, List.set_cons_succ] at ht_; subst ht_
                            refine q_do (.bool true) (fun w'_ hc_ => ex_mv (.tmp 86) (.inl rfl) _ rfl) rfl rfl ?_
                            intro ts_ ht_; simp only [List.setIfInBounds_toArray, List.set_cons_zero, List.set_cons_succ] at ht_; subst ht_
                            refine q_do (.string a0) (fun w'_ hc_ => ex_mv (.tmp 0) (.inl rfl) _ rfl) rfl rfl ?_
                            intro ts_ ht_; simp only [List.setIfInBounds_toArray, List.set_cons_zero, List.set_cons_succ] at ht_; subst ht_
                            refine q_do (.string a1) (fun w'_ hc_ => ex_mv (.tmp 1) (.inl rfl) _ rfl) rfl rfl ?_
                            intro ts_ ht_; simp only [List.setIfInBounds_toArray, List.set_cons_zero, List.set_cons_succ] at ht_; subst ht_
                            refine q_do (.string (a0 ++ a1)) (fun w'_ hc_ => by obtain ⟨n_, hn_⟩ := hc_; exact ex_cat 9 a0 a1 hc1432.out _ _ _ rfl rfl rfl) rfl rfl ?_
                            intro ts_ ht_; simp only [List.setIfInBounds_toArray, List.set_cons_zero, List.set_cons_succ] at ht_; subst ht_
                            refine q_do (v2_) (fun w'_ hc_ => ex_mv (.tmp 2) (.inl rfl) _ rfl) rfl rfl ?_
                            intro ts_ ht_; simp only [List.setIfInBounds_toArray, List.set_cons_zero, List.set_cons_succ] at ht_; subst ht_
                            refine q_call (.agg #[.int .i64 t1353, .int .i64 t1354, .int .i64 t1355]) 12 #[.string (a0 ++ a1), .int .i64 0, v2_] (fun w'_ => by go_simp) (fun w'_ hc_ => (i_lex_OneOf.calls k1383 (a0 ++ a1) 0 (v2_) a2 t1353 t1354 t1355 _ (by obtain ⟨n_, hn_⟩ := hc_; rw [hn_]; exact ((SP2.out.below HL.out)).below n_.below) A1433.out).mono fun e_ w2_ h_ => ⟨h_.1, up_below hc_ h_.2⟩) rfl rfl ?_
                            intro ts_ ht_; simp only [List.setIfInBounds_toArray, List.set_cons_zero, List.set_cons_succ] at ht_; subst ht_
                            refine q_do (.agg #[.int .i64 t1338, .int .i64 t1339, .int .i64 t1340]) (fun w'_ hc_ => by obtain ⟨n_, hn_⟩ := hc_; exact ex_load aT26 gb1341 0 #[.int .i64 t1338, .int .i64 t1339, .int .i64 t1340] #[.int .i64 t1338, .int .i64 t1339, .int .i64 t1340] (by rw [hn_]; exact BKb1341.out.below n_.below BKb1341.out.lt) (by simp) rfl _ rfl rfl) rfl rfl ?_
                            intro ts_ ht_; simp only [List.setIfInBounds_toArray, List.set_cons_zero, List.set_cons_succ] at ht_; subst ht_
                            refine q_do (.bool false) (fun w'_ hc_ => by obtain ⟨n_, hn_⟩ := hc_; exact ex_eq .eql 26 (.agg #[.int .i64 t1353, .int .i64 t1354, .int .i64 t1355]) (.agg #[.int .i64 t1338, .int .i64 t1339, .int .i64 t1340]) (.bool false) (fun x_ y_ w_ => guard_any (by kernel_rfl) _ x_ y_ w_) (fun w_ => (eq_bin (fun d_ w2_ => eqS26 d_ w2_ t1353 t1338 t1354 t1339 t1355 t1340 ) (by decide) w_).trans (by rw [show ((t1353 == t1338) && ((t1354 == t1339) && ((t1355 == t1340)))) = false from Bool.eq_false_iff.mpr hc1434.out])) _ _ _ rfl rfl rfl) rfl rfl ?_
                            intro ts_ ht_; simp only [List.setIfInBounds_toArray, List.set_cons_zero, List.set_cons_succ] at ht_; subst ht_
                            refine q_do (.bool false) (fun w'_ hc_ => by go_simp) rfl rfl ?_
                            intro ts_ ht_; simp only [List.setIfInBounds_toArray, List.set_cons_zero, List.set_cons_succ] at ht_; subst ht_
                            refine q_do (.bool false) (fun w'_ hc_ => ex_mv (.tmp 95) (.inr rfl) _ rfl) rfl rfl ?_
                            intro ts_ ht_; simp only [List.setIfInBounds_toArray, List.set_cons_zero, List.set_cons_succ] at ht_; subst ht_
                            refine q_end ?_
                            rintro w8_ ⟨n_, rfl⟩
                            replace BKb1341 := hid (BKb1341.out.below n_.below BKb1341.out.lt)
                            replace HL := hid (HL.out.trans (n_.below.mono HL.out.size))
                            generalize n_.world = w1444 at *
                            clear n_ WR64 WR32
                            go_wp2_with fail
                            (try simp only [Act.put, List.setIfInBounds_toArray, List.set_cons_zero, List.set_cons_succ])
                            go_ret
                            exact ⟨by first | rfl | (simp; done) | (simp [*]; done), HL.out⟩
                        · rw [if_neg c1432] at H
                          exact absurd H (by simp)
                      · rw [if_neg c1431] at H
                        have c1431b0 : (t1340 == 0) = false := beq_eq_false_iff_ne.mpr c1431
                        have c1431b1 : (t1340 != 0) = true := bne_iff_ne.mpr c1431
                        have hc1431 := hid c1431
                        clear c1431
                        obtain rfl := Option.some.inj H
                        clear H
                        have k1445 := True.intro
                        go_wp2_with (first
                          | (go_at_call 12; clear k1445; refine (i_lex_OneOf.calls k1383 a0 0 (v2_) a2 t1338 t1339 t1340 _ (SP2.out.below HL.out) A1391.out).mono ?_; rintro e_ w1446 ⟨rfl, hb_⟩; replace HL := hid (HL.out.trans (hb_.mono HL.out.size)); clear hb_)
                          | ((with_reducible refine gate_d (N := 8) rfl ?_); obtain ⟨gb1341, hgb1341⟩ : ∃ g_, w1446.heap.size = g_ := ⟨_, rfl⟩; refine ag_alloc aT26 gb1341 hgb1341 rfl rfl ?_; intro w1447 hb_ hB_ hs_; have GEb1341 : Hid (w.heap.size ≤ gb1341) := hid (by have := HL.out.size; omega); replace HL := hid (HL.out.trans (hb_.mono GEb1341.out)); have BKb1341 := hid hB_; clear hb_ hB_ hs_ hgb1341)
                          | ((with_reducible refine gate_s (t := 26) (p := 8) rfl ?_); refine ag_store aT26 gb1341 0 #[.int .i64 0, .int .i64 0, .int .i64 0] #[.int .i64 t1338, .int .i64 t1339, .int .i64 t1340] #[.int .i64 t1338, .int .i64 t1339, .int .i64 t1340] BKb1341.out rfl (by simp) (by intro v_ hv_; simp at hv_; rcases hv_ with rfl | rfl | rfl <;> first | rfl) rfl rfl _ _ rfl rfl rfl ?_; intro w1448 ho_ hB_; replace HL := hid (ho_.below HL.out GEb1341.out); replace BKb1341 := hid hB_; clear ho_ hB_)
                          | ((with_reducible refine gate_d (N := 46) rfl ?_); refine ag_fix (.pointer (some ⟨gb1341, 2, none⟩)) (ex_field 26 2 (.pointer (some ⟨gb1341, 0, none⟩)) (.pointer (some ⟨gb1341, 2, none⟩)) (fa26_2_0 gb1341) _ rfl rfl) rfl ?_)
                          | ((with_reducible refine gate_d (N := 47) rfl ?_); refine ag_fix (.int .i64 t1340) (ex_get sT24 gb1341 (2) (.int .i64 t1340) (#[.int .i64 t1338, .int .i64 t1339, .int .i64 t1340]) BKb1341.out rfl _ rfl rfl) rfl ?_))
                        (try simp only [Act.put, List.setIfInBounds_toArray, List.set_cons_zero, List.set_cons_succ])
                        have WR64 := i64_w
                        have WR32 := i32_w
                        refine up_regionW (by kernel_rfl) (by kernel_rfl) ?_
                        refine q_do (.pointer (some ⟨gb1341, 2, none⟩)) (fun w'_ hc_ => by obtain ⟨n_, hn_⟩ := hc_; exact ex_field 26 2 (.pointer (some ⟨gb1341, 0, none⟩)) (.pointer (some ⟨gb1341, 2, none⟩)) (fa26_2_0 gb1341) _ rfl rfl) rfl rfl ?_
                        intro ts_ ht_; simp only [List.setIfInBounds_toArray, List.set_cons_zero, List.set_cons_succ] at ht_; subst ht_
                        refine q_do (.int .i64 t1340) (fun w'_ hc_ => by obtain ⟨n_, hn_⟩ := hc_; exact ex_get sT24 gb1341 (2) (.int .i64 t1340) (#[.int .i64 t1338, .int .i64 t1339, .int .i64 t1340]) (by rw [hn_]; exact BKb1341.out.below n_.below BKb1341.out.lt) rfl _ rfl rfl) rfl rfl ?_
                        intro ts_ ht_; simp only [List.setIfInBounds_toArray, List.set_cons_zero, List.set_cons_succ] at ht_; subst ht_
                        refine q_do (.bool false) (fun w'_ hc_ => by go_simp) rfl rfl ?_
                        intro ts_ ht_; simp only [List.setIfInBounds_toArray, List.set_cons_zero, List.set_cons_succ] at ht_; subst ht_
                        refine q_do (.bool false) (fun w'_ hc_ => ex_mv (.tmp 86) (.inl rfl) _ rfl) rfl rfl ?_
                        intro ts_ ht_; simp only [List.setIfInBounds_toArray, List.set_cons_zero, List.set_cons_succ] at ht_; subst ht_
                        refine q_not 3 false rfl rfl rfl ?_
                        intro ts_ ht_; simp only [List.setIfInBounds_toArray, List.set_cons_zero, List.set_cons_succ] at ht_; subst ht_
                        refine q_not 3 false rfl rfl rfl ?_
                        intro ts_ ht_; simp only [List.setIfInBounds_toArray, List.set_cons_zero, List.set_cons_succ] at ht_; subst ht_
                        refine q_not 3 false rfl rfl rfl ?_
                        intro ts_ ht_; simp only [List.setIfInBounds_toArray, List.set_cons_zero, List.set_cons_succ] at ht_; subst ht_
                        refine q_not 3 false rfl rfl rfl ?_
                        intro ts_ ht_; simp only [List.setIfInBounds_toArray, List.set_cons_zero, List.set_cons_succ] at ht_; subst ht_
                        refine q_not 3 false rfl rfl rfl ?_
                        intro ts_ ht_; simp only [List.setIfInBounds_toArray, List.set_cons_zero, List.set_cons_succ] at ht_; subst ht_
                        refine q_not 3 false rfl rfl rfl ?_
                        intro ts_ ht_; simp only [List.setIfInBounds_toArray, List.set_cons_zero, List.set_cons_succ] at ht_; subst ht_
                        refine q_not 3 false rfl rfl rfl ?_
                        intro ts_ ht_; simp only [List.setIfInBounds_toArray, List.set_cons_zero, List.set_cons_succ] at ht_; subst ht_
                        refine q_do (.bool false) (fun w'_ hc_ => by go_simp) rfl rfl ?_
                        intro ts_ ht_; simp only [List.setIfInBounds_toArray, List.set_cons_zero, List.set_cons_succ] at ht_; subst ht_
                        refine q_do (.bool false) (fun w'_ hc_ => ex_mv (.tmp 95) (.inr rfl) _ rfl) rfl rfl ?_
                        intro ts_ ht_; simp only [List.setIfInBounds_toArray, List.set_cons_zero, List.set_cons_succ] at ht_; subst ht_
                        refine q_end ?_
                        rintro w8_ ⟨n_, rfl⟩
                        replace BKb1341 := hid (BKb1341.out.below n_.below BKb1341.out.lt)
                        replace HL := hid (HL.out.trans (n_.below.mono HL.out.size))
                        generalize n_.world = w1449 at *
                        clear n_ WR64 WR32
                        go_wp2_with fail
                        (try simp only [Act.put, List.setIfInBounds_toArray, List.set_cons_zero, List.set_cons_succ])
                        go_ret
                        exact ⟨by first | rfl | (simp; done) | (simp [*]; done), HL.out⟩
          | false =>
            rw [if_neg (show ¬ (false = true) by decide)] at H
            obtain rfl := Option.some.inj H
            clear H
            go_enter Try.func5, Try.ntmps5
            have k1450 := True.intro
            have k1455 := True.intro
            go_wp2_with (first
              | (go_at_call 9; clear k1450; refine (i_alfillaw14_wakes.calls k true _ A1356.out).mono ?_; rintro e_ w1451 ⟨rfl, hb_⟩; replace HL := hid (HL.out.trans (hb_.mono HL.out.size)); clear hb_)
              | ((with_reducible refine gate_d (N := 23) rfl ?_); obtain ⟨A1452, c1453, hv1454⟩ := (SP2.out.below HL.out).shape; rw [List.length_map] at hv1454; refine ag_fix (.int .i64 (a2.length : Int)) (ex_len us22 _ _ _ _ hv1454 _ rfl rfl) rfl ?_; clear hv1454)
              | (go_at_call 16; clear k1455; refine (i_alfilref14_Apart.calls k (v2_) a2 false _ (SP2.out.below HL.out) A1370.out).mono ?_; rintro e_ w1456 ⟨rfl, hb_⟩; replace HL := hid (HL.out.trans (hb_.mono HL.out.size)); clear hb_))
            (try simp only [Act.put, List.setIfInBounds_toArray, List.set_cons_zero, List.set_cons_succ])
            go_ret
            exact ⟨by first | rfl | (simp; done) | (simp [*]; done), HL.out⟩
  | false =>
    rw [if_neg (show ¬ (false = true) by decide)] at H
    obtain rfl := Option.some.inj H
    clear H
    go_enter Try.func5, Try.ntmps5
    have k1457 := True.intro
    go_wp2_with (first
      | (go_at_call 9; clear k1457; refine (i_alfillaw14_wakes.calls k false _ A1356.out).mono ?_; rintro e_ w1458 ⟨rfl, hb_⟩; replace HL := hid (HL.out.trans (hb_.mono HL.out.size)); clear hb_))
    (try simp only [Act.put, List.setIfInBounds_toArray, List.set_cons_zero, List.set_cons_succ])
    go_ret
    exact ⟨by first | rfl | (simp; done) | (simp [*]; done), HL.out⟩
end Go.Proofs.Ytabbkeliknidgaa
