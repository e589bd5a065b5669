import Derived.Test.YtpjocgebnodnoaaKnz
import Derived.Test.YtpjocgebnodnoaaK3wz
namespace Go.Proofs.Ytpjocgebnodnoaa
open Go.RowKit
set_option linter.unusedVariables false
set_option linter.unusedSimpArgs false
set_option maxRecDepth 100000
theorem rsqRight {x : Int} (h0 : 0 ≤ x) (h1 : x < 64) : i_alfilref01_Right.f x = some true := by
  rw [i_alfilref01_Right.f, if_pos h0, decide_eq_true (by omega)]
theorem rFormed {b : List Int} (h : B8 b) (ho : okB b = true) {t f o : Int} (c e p : Int) (ht : t = 0 ∨ t = 1) (f0 : 0 ≤ f ∧ f < 64) (o0 : 0 ≤ o ∧ o < 64) {k : Nat} (hk : 20 < k) : i_alfilref09_Formed.f k b t c e f o p = some (formedZ b t f o p) := by
  have cf := cell_bd h ho f0.1 f0.2
  have co := cell_bd h ho o0.1 o0.2
  rw [i_alfilref09_Formed.f, rsqRight f0.1 f0.2, Option.bind_some, if_pos rfl, rsqRight o0.1 o0.2, Option.bind_some, if_pos rfl, if_pos f0.1, if_pos f0.2, nt_w h, rSide cf.1 cf.2 (by omega), Option.bind_some]
  unfold formedZ
  by_cases h1 : sideZ (nt b f.toNat 0) = t
  · rw [if_pos h1, if_pos o0.1, if_pos o0.2, nt_w h, rSide co.1 co.2 (by omega), Option.bind_some, beq_iff_eq.2 h1, Bool.true_and]
    by_cases h2 : sideZ (nt b o.toNat 0) = t
    · rw [if_pos h2, h2, bne_self_eq_false, Bool.false_and]
    · rw [if_neg h2, show (sideZ (nt b o.toNat 0) != t) = true from bne_iff_ne.2 h2, Bool.true_and, pawn_is f0.1 f0.2, Option.bind_some, Option.bind_some, rRank o0.1 o0.2 (by omega), Option.bind_some, Option.bind_some]
      have e1 : (p == 0) = decide (p = 0) := rfl
      have e2 : (if p ≥ 2 then some (decide (p ≤ 5)) else some false) = some (decide (2 ≤ p ∧ p ≤ 5)) := by
        by_cases h : p ≥ 2
        · rw [if_pos h]; congr 1; exact decide_eq_decide.2 (by omega)
        · rw [if_neg h]; congr 1; exact (decide_eq_false (by omega)).symm
      rw [e1, e2]
      unfold endZ
      cases hp : pawnB b f with
      | false =>
        rw [if_neg (c := (false : Bool) = true ∧ _) (fun hh => by cases hh.1)]
        rcases ht with rfl | rfl <;> rfl
      | true =>
        rcases ht with rfl | rfl
        · rw [if_neg (c := (0 : Int) = 1) (by decide), if_neg (c := (0 : Int) = 1) (by decide), if_pos (c := true = true) rfl]
          by_cases h3 : o / 8 = 7
          · rw [if_pos h3, if_pos ⟨rfl, h3⟩]
          · rw [if_neg h3, if_neg (fun hh => h3 hh.2)]
        · rw [if_pos (c := (1 : Int) = 1) rfl, if_pos (c := (1 : Int) = 1) rfl, if_pos (c := true = true) rfl]
          by_cases h3 : o / 8 = 0
          · rw [if_pos h3, if_pos ⟨rfl, h3⟩]
          · rw [if_neg h3, if_neg (fun hh => h3 hh.2)]
  · rw [if_neg h1, show (sideZ (nt b f.toNat 0) == t) = false from beq_eq_false_iff_ne.2 h1, Bool.false_and]
set_option maxHeartbeats 8000000 in
theorem rPassed (b : List Int) {t : Int} (c e : Int) (ht : t = 0 ∨ t = 1) {k : Nat} (hk : 20 < k) : i_alfilref08_Passed.f k b t c e = some (passedZ b t e) := by
  unfold i_alfilref08_Passed.f passedZ
  by_cases h0 : e < 0
  · rw [if_pos h0, if_pos (.inl h0)]
  by_cases h1 : e > 63
  · rw [if_neg h0, if_pos h1, if_pos (.inr h1)]
  rw [if_neg h0, if_neg h1, if_neg (c := e < 0 ∨ 63 < e) (by omega)]
  have er : i_alfilref01_Rank.f k e = some (e / 8) := rRank (by omega) (by omega) (by omega)
  have ep : wrap64 (e + 8) = e + 8 := q64 (by omega) (by omega)
  have em : wrap64 (e - 8) = e - 8 := q64 (by omega) (by omega)
  simp only [er, ep, em, Option.bind_some]
  generalize nt b e.toNat 0 = x0
  generalize nt b (e + 8).toNat 0 = x1
  generalize nt b (e - 8).toNat 0 = x2
  have hq : e / 8 * 8 ≤ e := by omega
  have hq2 : e < e / 8 * 8 + 8 := by omega
  generalize e / 8 = r at *
  rcases ht with rfl | rfl
  · simp only [if_true, show ((0 : Int) = 1) = False from by simp, if_false, false_and, true_and]
    repeat' split
    all_goals first | rfl | (exfalso; omega)
  · simp only [if_true, show ((1 : Int) = 0) = False from by simp, if_false, false_and, true_and]
    repeat' split
    all_goals first | rfl | (exfalso; omega)
theorem passed_bd (b : List Int) (t e : Int) : passedZ b t e < 64 := by
  unfold passedZ
  split
  · decide
  · split
    · omega
    · split
      · omega
      · decide
theorem takes_bd {b : List Int} {t e f o : Int} (h : o < 64) : takesZ b t e f o < 64 := by
  unfold takesZ
  split
  · exact h
  · split
    · exact passed_bd b t e
    · decide
theorem rTakes (b : List Int) {t f o : Int} (c e p : Int) (ht : t = 0 ∨ t = 1) (f0 : 0 ≤ f ∧ f < 64) (o0 : 0 ≤ o ∧ o < 64) {k : Nat} (hk : 30 < k) : i_alfilref09_Takes.f k b t c e f o p = some (takesZ b t e f o) := by
  unfold i_alfilref09_Takes.f takesZ
  rw [if_pos o0.1, if_pos o0.2, pawn_is f0.1 f0.2, Option.bind_some, rFile o0.1 o0.2 (by omega), Option.bind_some, rFile f0.1 f0.2 (by omega), Option.bind_some, rPassed b c e ht (by omega), Option.bind_some]
  by_cases h0 : nt b o.toNat 0 = 0
  · rw [if_pos h0, if_neg (c := nt b o.toNat 0 ≠ 0) (fun hh => hh h0)]
    cases hp : pawnB b f with
    | false => rw [if_neg (by decide), if_neg (fun hh => by cases hh.1)]
    | true =>
      rw [if_pos rfl]
      by_cases h1 : e ≥ 0
      · rw [if_pos h1]
        by_cases h2 : o = e
        · rw [if_pos h2]
          by_cases h3 : o % 8 = f % 8
          · rw [if_pos h3, if_neg (fun hh => hh.2.2.2 h3)]
          · rw [if_neg h3, if_pos ⟨rfl, h1, h2, h3⟩]
        · rw [if_neg h2, if_neg (fun hh => h2 hh.2.2.1)]
      · rw [if_neg h1, if_neg (fun hh => h1 hh.2.1)]
  · rw [if_neg h0, if_pos h0]
theorem rRight9 (b : List Int) {f : Int} (t c e o p : Int) (f0 : 0 ≤ f ∧ f < 64) {k : Nat} : i_alfilref09_Right.f k b t c e f o p = some (rightZ b c f o) := by
  rw [i_alfilref09_Right.f, if_pos f0]
  congr 1
  have c1 : clearZ b 1 = (decide (nt b 5 0 = 0) && decide (nt b 6 0 = 0)) := by
    unfold clearZ i_alfilref09_clear.f
    by_cases h : nt b 5 0 = 0
    · rw [if_pos rfl, if_pos h, h]; rfl
    · rw [if_pos rfl, if_neg h, decide_eq_false h]; rfl
  have c2 : clearZ b 2 = (decide (nt b 1 0 = 0) && (decide (nt b 2 0 = 0) && decide (nt b 3 0 = 0))) := by
    unfold clearZ i_alfilref09_clear.f
    rw [if_neg (by decide), if_pos rfl]
    by_cases h : nt b 1 0 = 0
    · by_cases h' : nt b 2 0 = 0
      · rw [if_pos h, if_pos h', h, h']; rfl
      · rw [if_pos h, if_neg h', decide_eq_false h', Bool.false_and, Bool.and_false]; rfl
    · rw [if_neg h, decide_eq_false h]; rfl
  have c4 : clearZ b 4 = (decide (nt b 61 0 = 0) && decide (nt b 62 0 = 0)) := by
    unfold clearZ i_alfilref09_clear.f
    rw [if_neg (by decide), if_neg (by decide), if_pos rfl]
    by_cases h : nt b 61 0 = 0
    · rw [if_pos h, h]; rfl
    · rw [if_neg h, decide_eq_false h]; rfl
  have c8 : clearZ b 8 = (decide (nt b 57 0 = 0) && (decide (nt b 58 0 = 0) && decide (nt b 59 0 = 0))) := by
    unfold clearZ i_alfilref09_clear.f
    rw [if_neg (by decide), if_neg (by decide), if_neg (by decide)]
    by_cases h : nt b 57 0 = 0
    · by_cases h' : nt b 58 0 = 0
      · rw [if_pos h, if_pos h', h, h']; rfl
      · rw [if_pos h, if_neg h', decide_eq_false h', Bool.false_and, Bool.and_false]; rfl
    · rw [if_neg h, decide_eq_false h]; rfl
  unfold rgJ rgJ rgJ rgJ rgJ rightZ
  simp only [rgV, rgF, rgO, rgK, c1, c2, c4, c8, Bool.and_eq_true, decide_eq_true_eq]
  have at4 : f = 4 → nt b f.toNat 0 = nt b 4 0 := fun e => by rw [e]; rfl
  have at60 : f = 60 → nt b f.toNat 0 = nt b 60 0 := fun e => by rw [e]; rfl
  have sw : ∀ {P Q : Prop} [Decidable P] [Decidable Q] {x y y' : Int}, (P ↔ Q) → y = y' → (if P then x else y) = if Q then x else y' := by
    intro P Q _ _ x y y' hpq hy
    by_cases h : P
    · rw [if_pos h, if_pos (hpq.1 h)]
    · rw [if_neg h, if_neg (fun hh => h (hpq.2 hh)), hy]
  refine sw ⟨fun h => ⟨h.1, h.2.1, h.2.2.1, at4 h.2.1 ▸ h.2.2.2.1, h.2.2.2.2⟩, fun h => ⟨h.1, h.2.1, h.2.2.1, (at4 h.2.1).symm ▸ h.2.2.2.1, h.2.2.2.2⟩⟩ ?_
  refine sw ⟨fun h => ⟨h.1, h.2.1, h.2.2.1, at4 h.2.1 ▸ h.2.2.2.1, h.2.2.2.2⟩, fun h => ⟨h.1, h.2.1, h.2.2.1, (at4 h.2.1).symm ▸ h.2.2.2.1, h.2.2.2.2⟩⟩ ?_
  refine sw ⟨fun h => ⟨h.1, h.2.1, h.2.2.1, at60 h.2.1 ▸ h.2.2.2.1, h.2.2.2.2⟩, fun h => ⟨h.1, h.2.1, h.2.2.1, (at60 h.2.1).symm ▸ h.2.2.2.1, h.2.2.2.2⟩⟩ ?_
  refine sw ⟨fun h => ⟨h.1, h.2.1, h.2.2.1, at60 h.2.1 ▸ h.2.2.2.1, h.2.2.2.2⟩, fun h => ⟨h.1, h.2.1, h.2.2.1, (at60 h.2.1).symm ▸ h.2.2.2.1, h.2.2.2.2⟩⟩ rfl
theorem right_cases (b : List Int) (c f o : Int) : rightZ b c f o = 0 ∨ ((rightZ b c f o = 1 ∨ rightZ b c f o = 2) ∧ f = 4) ∨ ((rightZ b c f o = 4 ∨ rightZ b c f o = 8) ∧ f = 60) := by
  unfold rightZ
  split
  · rename_i h; exact .inr (.inl ⟨.inl rfl, h.2.1⟩)
  · split
    · rename_i h; exact .inr (.inl ⟨.inr rfl, h.2.1⟩)
    · split
      · rename_i h; exact .inr (.inr ⟨.inl rfl, h.2.1⟩)
      · split
        · rename_i h; exact .inr (.inr ⟨.inr rfl, h.2.1⟩)
        · exact .inl rfl
theorem gZ_is {b : List Int} {t c e f o p : Int} (hi : PosI b t c e) (f0 : 0 ≤ f ∧ f < 64) (o0 : 0 ≤ o ∧ o < 64) : gZ b t c e f o p = some (goodZ b t c e f o p) := by
  have h := hi.b8
  have ho := hi.ok
  have cf := cell_bd h ho f0.1 f0.2
  unfold gZ goodZ
  rw [rFormed h ho c e p hi.tt f0 o0 (by omega), Option.bind_some]
  cases hf : formedZ b t f o p with
  | false => rw [if_pos rfl, Bool.false_and]
  | true =>
    rw [if_neg (by decide), Bool.true_and]
    by_cases hp : pawnB b f = true
    · have hT := raysR_tame (nt b f.toNat 0) f
      rw [if_pos hp, if_pos hp, rTakes b c e p hi.tt f0 o0 (by omega), Option.bind_some, rOf cf.1 cf.2 f (by omega), Option.bind_some, if_pos]
      refine ⟨List.all_eq_true.2 fun l hl => ?_, by have := hT.len; omega⟩
      exact (List.mem_filter.1 hl).2
    · rw [if_neg hp, if_neg hp]
      obtain ⟨hh, e1, _, e3⟩ := rStruck h ho f0.1 f0.2 (k := 1000) (by omega)
      have e4 := e3 o.toNat (by omega)
      rw [show ((o.toNat : Nat) : Int) = o by omega] at e4
      rw [e1, Option.bind_some, e4, rRight9 b t c e o p f0, Option.map_some]
      cases hitsZ b f o with
      | true => rw [if_pos rfl, Bool.true_or]
      | false => rw [if_neg (by decide), Bool.false_or]
theorem okAll_is {b : List Int} {t c e : Int} (hi : PosI b t c e) : okAll b t c e = true := by
  unfold okAll
  rw [decide_eq_true hi.tt, Bool.true_and]
  refine List.all_eq_true.2 fun f hf => ?_
  have hf := List.mem_range.1 hf
  rw [Bool.and_eq_true]
  refine ⟨decide_eq_true (nt_bd hi.b8 f), ?_⟩
  rw [Bool.or_eq_true]
  refine .inr ?_
  obtain ⟨hh, e1, _, _⟩ := rStruck hi.b8 hi.ok (s := (f : Int)) (by omega) (by omega) (k := 1000) (by omega)
  rw [e1, Bool.and_eq_true]
  refine ⟨rfl, List.all_eq_true.2 fun o ho => List.all_eq_true.2 fun p hp => ?_⟩
  have ho := List.mem_range.1 ho
  rw [gZ_is hi (by omega) (by omega)]; rfl
theorem rAll {b : List Int} {t c e : Int} (hi : PosI b t c e) (k : Nat) : i_alfilref10_All.f k b t c e = some (allZ b t c e) := by
  rw [i_alfilref10_All.f, if_pos (okAll_is hi)]
def MvOk (b : List Int) (t c e : Int) (x : Int × Int × Int) : Prop := (0 ≤ x.1 ∧ x.1 < 64) ∧ (0 ≤ x.2.1 ∧ x.2.1 < 64) ∧ (0 ≤ x.2.2 ∧ x.2.2 ≤ 5) ∧ goodZ b t c e x.1 x.2.1 x.2.2 = true
theorem all_mem {b : List Int} {t c e : Int} (hi : PosI b t c e) {x : Int × Int × Int} (hx : x ∈ allZ b t c e) : MvOk b t c e x := by
  unfold allZ at hx
  obtain ⟨f, hf, hx⟩ := List.mem_flatMap.1 hx
  have hf := List.mem_range.1 hf
  unfold rowF at hx
  split at hx
  · cases hx
  · obtain ⟨o, ho, hx⟩ := List.mem_flatMap.1 hx
    have ho := List.mem_range.1 ho
    unfold cellF at hx
    obtain ⟨p, hp, rfl⟩ := List.mem_map.1 hx
    obtain ⟨hp, hg⟩ := List.mem_filter.1 hp
    have hp2 : 0 ≤ p ∧ p ≤ 5 := by
      unfold proms at hp
      simp only [List.mem_cons, List.not_mem_nil, or_false] at hp
      omega
    unfold gB at hg
    rw [gZ_is hi (by omega) (by omega)] at hg
    exact ⟨⟨by show (0 : Int) ≤ (f : Int); omega, by show (f : Int) < 64; omega⟩, ⟨by show (0 : Int) ≤ (o : Int); omega, by show (o : Int) < 64; omega⟩, hp2, hg⟩
theorem all_len (b : List Int) (t c e : Int) : (allZ b t c e).length ≤ 24576 := by
  have := flat_le (fun f => rowF_len b t c e f) (List.range 64)
  unfold allZ; simpa using this
def nextB (b : List Int) (t c e : Int) (x : Int × Int × Int) : List Int := behB b t x.1 x.2.1 x.2.2 (takesZ b t e x.1 x.2.1) (rightZ b c x.1 x.2.1)
theorem rBehind {b : List Int} {t c e : Int} (ht : t = 0 ∨ t = 1) {x : Int × Int × Int} (hx : MvOk b t c e x) (k : Nat) :
    i_alfilref09_Behind.f k b t c e x.1 x.2.1 x.2.2 = some (nextB b t c e x, 1 - t, castJ c x.1 x.2.1 4, epZ b x.1 x.2.1) := by
  obtain ⟨f0, o0, p0, _⟩ := hx
  rw [i_alfilref09_Behind.f, if_pos ⟨f0.1, f0.2, o0.1, o0.2, p0.1, p0.2, ht⟩, rTakes b c e _ ht f0 o0 (by omega), rRight9 b t c e _ _ f0]
  have h1 := takes_bd (b := b) (t := t) (e := e) (f := x.1) o0.2
  have h2 := right_cases b c x.1 x.2.1
  simp only
  rw [if_pos ⟨h1, by omega, by omega⟩]; rfl
theorem beh_b8 {b : List Int} {t f o p tk R : Int} (h : B8 b) (ho : okB b = true) (ht : t = 0 ∨ t = 1) (f0 : 0 ≤ f ∧ f < 64) (p0 : 0 ≤ p ∧ p ≤ 5) : B8 (behB b t f o p tk R) ∧ okB (behB b t f o p tk R) = true := by
  have cf := cell_bd h ho f0.1 f0.2
  have st : ∀ {l : List Int} {i : Nat} {v : Int}, (B8 l ∧ okB l = true) → -6 ≤ v ∧ v ≤ 6 → B8 (l.set i v) ∧ okB (l.set i v) = true := fun hl hv => ⟨b8_set hl.1 _ (by omega) (by omega), ok_set hl.2 hl.1.1 _ hv⟩
  have h1 : B8 (b1Z b tk) ∧ okB (b1Z b tk) = true := by unfold b1Z; split; exact st ⟨h, ho⟩ (by decide); exact ⟨h, ho⟩
  have hpp : -6 ≤ p - 2 * t * p ∧ p - 2 * t * p ≤ 6 := by rcases ht with rfl | rfl <;> omega
  have h4 : -6 ≤ 4 - 8 * t ∧ 4 - 8 * t ≤ 6 := by rcases ht with rfl | rfl <;> omega
  have h3 : B8 (b3Z b t f o p tk) ∧ okB (b3Z b t f o p tk) = true := by unfold b3Z; split; exact st (st h1 cf) hpp; exact st h1 cf
  have h5 : B8 (b5Z b t f o p tk R) ∧ okB (b5Z b t f o p tk R) = true := by unfold b5Z; split; exact st (st (st h3 (by decide)) h4) (by decide); exact st h3 (by decide)
  unfold behB
  split
  · exact st (st h5 h4) (by decide)
  · exact h5
theorem tdiv_mid {f o : Int} (f0 : 0 ≤ f ∧ f < 64) (o0 : 0 ≤ o ∧ o < 64) : 0 ≤ wrap64 (Int.tdiv (wrap64 (f + o)) 2) ∧ wrap64 (Int.tdiv (wrap64 (f + o)) 2) < 64 := by
  rw [q64 (x := f + o) (by omega) (by omega), Int.tdiv_eq_ediv_of_nonneg (by omega), q64 (by omega) (by omega)]; omega
theorem rStays {b : List Int} {t c e : Int} (hi : PosI b t c e) {x : Int × Int × Int} (hx : MvOk b t c e x) {k : Nat} (hk : 1100 < k) :
    ∃ r, i_alfilref11_stays.f k b t c e x.1 x.2.1 x.2.2 = some r ∧ (r = true → checkZ (nextB b t c e x) t = false) := by
  obtain ⟨f0, o0, p0, _⟩ := id hx
  have hb := beh_b8 (o := x.2.1) (tk := takesZ b t e x.1 x.2.1) (R := rightZ b c x.1 x.2.1) hi.b8 hi.ok hi.tt f0 p0
  have hm := tdiv_mid f0 o0
  rw [i_alfilref11_stays.f, rRight9 b t c e _ _ f0, Option.bind_some, rBehind hi.tt hx, Option.bind_some, rCheck hi.b8 hi.ok hi.tt (by omega), Option.bind_some, rBy hi.b8 hi.ok hm.1 hm.2 _ (by omega), Option.bind_some]
  dsimp only
  have ec : i_alfilref07_Check.f k (nextB b t c e x) t = some (checkZ (nextB b t c e x) t) := rCheck hb.1 hb.2 hi.tt (by omega)
  rw [ec, Option.bind_some]
  have fin : ∀ r, some (!checkZ (nextB b t c e x) t) = some r → r = true → checkZ (nextB b t c e x) t = false := by
    intro r h1 h2
    injection h1 with h1
    rw [h2] at h1
    simpa using h1
  split
  · split
    · exact ⟨false, rfl, fun h => by cases h⟩
    · split
      · exact ⟨false, rfl, fun h => by cases h⟩
      · exact ⟨_, rfl, fin _ rfl⟩
  · exact ⟨_, rfl, fin _ rfl⟩
def Legal (b : List Int) (t c e : Int) (x : Int × Int × Int) : Prop := MvOk b t c e x ∧ checkZ (nextB b t c e x) t = false
theorem rMoves_l {b : List Int} {t c e : Int} (hi : PosI b t c e) {l : List (Int × Int × Int)} (hl : ∀ x ∈ l, MvOk b t c e x) (hn : l.length ≤ 24576) :
    ∀ (d i k : Nat) (acc : List (Int × Int × Int)), i + d = l.length → d + 1200 < k → acc.length ≤ i → (∀ x ∈ acc, Legal b t c e x) →
    ∃ m, i_alfilref11_Moves.l0 k b t c e l acc (i : Int) = some m ∧ m.length ≤ l.length ∧ ∀ x ∈ m, Legal b t c e x := by
  intro d
  induction d with
  | zero =>
    intro i k acc hid hk ha hacc
    obtain ⟨k, rfl⟩ : ∃ q, k = q + 1 := ⟨k - 1, by omega⟩
    exact ⟨acc, by rw [i_alfilref11_Moves.l0, if_neg (by omega)], by omega, hacc⟩
  | succ d ih =>
    intro i k acc hid hk ha hacc
    obtain ⟨k, rfl⟩ : ∃ q, k = q + 1 := ⟨k - 1, by omega⟩
    have hlt : i < l.length := by omega
    have hm := hl _ (nt_mem (d := ((0 : Int), (0 : Int), (0 : Int))) hlt)
    obtain ⟨r, hr, hr2⟩ := rStays hi hm (k := k) (by omega)
    have es : wrap64 ((i : Int) + 1) = ((i + 1 : Nat) : Int) := by rw [q64 (by omega) (by omega)]; rfl
    rw [i_alfilref11_Moves.l0, if_pos (by omega), if_pos (by omega), Int.toNat_natCast, hr, Option.bind_some, es]
    cases r with
    | true =>
      rw [if_pos rfl, if_pos (by omega)]
      refine ih (i + 1) k _ (by omega) (by omega) (by simp; omega) fun x hx => ?_
      rcases List.mem_append.1 hx with hx | hx
      · exact hacc x hx
      · rw [List.mem_singleton] at hx; rw [hx]; exact ⟨hm, hr2 rfl⟩
    | false =>
      rw [if_neg (by decide)]
      exact ih (i + 1) k _ (by omega) (by omega) (by omega) hacc
theorem rMoves {b : List Int} {t c e : Int} (hi : PosI b t c e) {k : Nat} (hk : 26000 < k) : ∃ m, i_alfilref11_Moves.f k b t c e = some m ∧ m.length ≤ 24576 ∧ ∀ x ∈ m, Legal b t c e x := by
  have hl := all_len b t c e
  obtain ⟨m, h1, h2, h3⟩ := rMoves_l hi (fun x hx => all_mem hi hx) hl _ 0 k [] (Nat.zero_add _) (by omega) (by simp) (fun x hx => by cases hx)
  refine ⟨m, ?_, by omega, h3⟩
  rw [i_alfilref11_Moves.f, rAll hi, Option.bind_some]; exact h1
theorem legal_pos {b : List Int} {t c e : Int} (hi : PosI b t c e) {x : Int × Int × Int} (hx : Legal b t c e x) : PosI (nextB b t c e x) (1 - t) (castJ c x.1 x.2.1 4) (epZ b x.1 x.2.1) :=
  step_sound hi hx.1.1 hx.1.2.1 hx.1.2.2.1 hx.1.2.2.2 hx.2
end Go.Proofs.Ytpjocgebnodnoaa
