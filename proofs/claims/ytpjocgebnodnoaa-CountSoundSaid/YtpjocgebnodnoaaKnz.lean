import Derived.Test.YtpjocgebnodnoaaKmz
namespace Go.Proofs.Ytpjocgebnodnoaa
open Go.RowKit
set_option linter.unusedVariables false
set_option linter.unusedSimpArgs false
set_option maxRecDepth 100000
def csB (b : List Int) (f o a r : Nat) (K RK : Int) : List Int := (((b.set o K).set f 0).set a RK).set r 0
structure Cs (b : List Int) (t : Int) (f o a r : Nat) : Prop where
  hb : b.length = 64
  tt : t = 0 ∨ t = 1
  lt : f < 64 ∧ o < 64 ∧ a < 64 ∧ r < 64
  ne : f ≠ o ∧ f ≠ a ∧ f ≠ r ∧ o ≠ a ∧ o ≠ r ∧ a ≠ r
  vf : nt b f 0 = sg t 6
  vo : nt b o 0 = 0
  va : nt b a 0 = 0
  vr : nt b r 0 = sg t 4
section
variable {b : List Int} {t : Int} {f o a r : Nat}
theorem Cs.at_ (h : Cs b t f o a r) {i : Nat} (hi : i < 64) : nt (csB b f o a r (sg t 6) (sg t 4)) i 0 = if i = r then 0 else if i = a then sg t 4 else if i = f then 0 else if i = o then sg t 6 else nt b i 0 := by
  have hb := h.hb
  unfold csB
  by_cases e1 : i = r
  · rw [if_pos e1, e1]; exact ntA_eq (by simp [hb]; omega)
  rw [if_neg e1, ntA_ne (Ne.symm e1)]
  by_cases e2 : i = a
  · rw [if_pos e2, e2]; exact ntA_eq (by simp [hb]; omega)
  rw [if_neg e2, ntA_ne (Ne.symm e2)]
  by_cases e3 : i = f
  · rw [if_pos e3, e3]; exact ntA_eq (by simp [hb]; omega)
  rw [if_neg e3, ntA_ne (Ne.symm e3)]
  by_cases e4 : i = o
  · rw [if_pos e4, e4]; exact ntA_eq (by omega)
  rw [if_neg e4, ntA_ne (Ne.symm e4)]
theorem Cs.cnt (h : Cs b t f o a r) {P : Nat → Int → Bool} (hP : ∀ i, P i 0 = false) (hk : P o (sg t 6) = P f (sg t 6)) (hr : P a (sg t 4) = P r (sg t 4)) : cntP P (csB b f o a r (sg t 6) (sg t 4)) = cntP P b := by
  have hb := h.hb
  obtain ⟨l1, l2, l3, l4⟩ := h.lt
  obtain ⟨n1, n2, n3, n4, n5, n6⟩ := h.ne
  have c1 := cnt_set (P := P) (b := b) (i := o) (v := sg t 6) hb l2
  rw [h.vo, ib_f (hP _)] at c1
  have c2 := cnt_set (P := P) (b := b.set o (sg t 6)) (i := f) (v := 0) (by simp [hb]) l1
  rw [ntA_ne (Ne.symm n1), h.vf, ib_f (hP _)] at c2
  have c3 := cnt_set (P := P) (b := (b.set o (sg t 6)).set f 0) (i := a) (v := sg t 4) (by simp [hb]) l3
  rw [ntA_ne n2, ntA_ne n4, h.va, ib_f (hP _)] at c3
  have c4 := cnt_set (P := P) (b := ((b.set o (sg t 6)).set f 0).set a (sg t 4)) (i := r) (v := 0) (by simp [hb]) l4
  rw [ntA_ne n6, ntA_ne n3, ntA_ne n5, h.vr, ib_f (hP _)] at c4
  unfold csB
  rw [hk] at c1; rw [hr] at c3
  omega
theorem Cs.many (h : Cs b t f o a r) (k s : Int) : manyZ (csB b f o a r (sg t 6) (sg t 4)) k s = manyZ b k s := by
  rw [many_cnt, many_cnt]; exact h.cnt (P := fun _ v => inB v k s) (fun _ => inB_0 _ _) rfl rfl
theorem Cs.bis (h : Cs b t f o a r) {s : Int} (hs : s = 0 ∨ s = 1) (d : Bool) : bcnt (csB b f o a r (sg t 6) (sg t 4)) s d = bcnt b s d := by
  rw [bcnt_cnt, bcnt_cnt]
  have n3 : ∀ q : Fin 7, q.val ≠ 3 → q.val ≠ 0 → ∀ i, bisP s d i (sg t (q.val : Int)) = false := by
    intro q hq hq0 i
    unfold bisP
    have : (sg t (q.val : Int) == sg s 3) = false := by
      revert q; rcases h.tt with e | e <;> rcases hs with e2 | e2 <;> subst e <;> subst e2 <;> decide
    rw [this, Bool.false_and]
  exact h.cnt (fun i => bis_0 hs d i) ((n3 (6 : Fin 7) (by decide) (by decide) o).trans (n3 (6 : Fin 7) (by decide) (by decide) f).symm) ((n3 (4 : Fin 7) (by decide) (by decide) a).trans (n3 (4 : Fin 7) (by decide) (by decide) r).symm)
theorem Cs.pos {c e c' e' : Int} (hi : PosI b t c e) (h : Cs b t f o a r) (hc : 0 ≤ c' ∧ c' ≤ 15) (he : -1 ≤ e' ∧ e' ≤ 63)
    (hbk : ∀ j, j < 4 → hasZ c' ((2 ^ j : Nat) : Int) = true → nt (csB b f o a r (sg t 6) (sg t 4)) (ksZ j) 0 = kmZ j ∧ nt (csB b f o a r (sg t 6) (sg t 4)) (rsZ j) 0 = rmZ j)
    (hck : checkZ (csB b f o a r (sg t 6) (sg t 4)) t = false) : PosI (csB b f o a r (sg t 6) (sg t 4)) (1 - t) c' e' := by
  obtain ⟨ho, k0, k1, hri, m0, m1⟩ := wrong_is hi.wr
  have hb := h.hb
  have s6 : -6 ≤ sg t 6 ∧ sg t 6 ≤ 6 := by rcases h.tt with e | e <;> subst e <;> decide
  have s4 : -6 ≤ sg t 4 ∧ sg t 4 ≤ 6 := by rcases h.tt with e | e <;> subst e <;> decide
  have k6 : ¬ kindZ (sg t 6) = 1 := by rcases h.tt with e | e <;> subst e <;> decide
  have k4 : ¬ kindZ (sg t 4) = 1 := by rcases h.tt with e | e <;> subst e <;> decide
  have z : ¬ kindZ 0 = 1 := by decide
  have ok' : okB (csB b f o a r (sg t 6) (sg t 4)) = true := ok_set (ok_set (ok_set (ok_set ho hb _ s6) (by simp [hb]) _ (by decide)) (by simp [hb]) _ s4) (by simp [hb]) _ (by decide)
  refine { b8 := b8_set (b8_set (b8_set (b8_set hi.b8 _ (by omega) (by omega)) _ (by decide) (by decide)) _ (by omega) (by omega)) _ (by decide) (by decide), wr := wrong_of ok' (by rw [h.many]; exact k0) (by rw [h.many]; exact k1) (fun i hi' hk => ?_) (by rw [h.many]; exact m0) (by rw [h.many]; exact m1), tt := by have := h.tt; omega, cc := hc, ee := he, bk := hbk, ck := by rw [show 1 - (1 - t) = t by omega]; exact hck, pr := fun s hs => ?_, mt := fun s hs => ?_ }
  · rw [h.at_ hi'] at hk
    split at hk
    · exact absurd hk z
    · split at hk
      · exact absurd hk k4
      · split at hk
        · exact absurd hk z
        · split at hk
          · exact absurd hk k6
          · exact hri i hi' hk
  · have h1 := prom_mono (b := b) (b' := csB b f o a r (sg t 6) (sg t 4)) (s := s) ⟨by rw [h.many]; exact Nat.le_refl _, by rw [h.many]; exact Nat.le_refl _, by rw [h.many]; exact Nat.le_refl _, by rw [h.bis hs]; exact Nat.le_refl _, by rw [h.bis hs]; exact Nat.le_refl _⟩
    have h2 := hi.pr s hs
    rw [h.many]; omega
  · refine mi_keep (hi.mt s hs) (fun i i0 i1 => ?_) (by rw [h.many]; exact Nat.le_refl _)
    have p6 : sg t 6 ≠ sg s 1 := by rcases h.tt with e | e <;> rcases hs with e2 | e2 <;> subst e <;> subst e2 <;> decide
    have p4 : sg t 4 ≠ sg s 1 := by rcases h.tt with e | e <;> rcases hs with e2 | e2 <;> subst e <;> subst e2 <;> decide
    have p0 := zero_man hs
    rw [h.at_ (i := i.toNat) (by omega)]
    by_cases e1 : i.toNat = r
    · rw [if_pos e1, e1, h.vr]; exact ⟨fun hh => absurd hh p0, fun hh => absurd hh p4⟩
    rw [if_neg e1]
    by_cases e2 : i.toNat = a
    · rw [if_pos e2, e2, h.va]; exact ⟨fun hh => absurd hh p4, fun hh => absurd hh p0⟩
    rw [if_neg e2]
    by_cases e3 : i.toNat = f
    · rw [if_pos e3, e3, h.vf]; exact ⟨fun hh => absurd hh p0, fun hh => absurd hh p6⟩
    rw [if_neg e3]
    by_cases e4 : i.toNat = o
    · rw [if_pos e4, e4, h.vo]; exact ⟨fun hh => absurd hh p6, fun hh => absurd hh p0⟩
    rw [if_neg e4]
end
theorem cs_back {b : List Int} {t c e : Int} {f o a r : Nat} {oo : Int} (hi : PosI b t c e) (h : Cs b t f o a r) (hw : (f = 4 ∧ o < 8 ∧ a < 8 ∧ r < 8) ∨ (f = 60 ∧ 56 ≤ o ∧ 56 ≤ a ∧ 56 ≤ r)) :
    ∀ j, j < 4 → hasZ (castJ c (f : Int) oo 4) ((2 ^ j : Nat) : Int) = true → nt (csB b f o a r (sg t 6) (sg t 4)) (ksZ j) 0 = kmZ j ∧ nt (csB b f o a r (sg t 6) (sg t 4)) (rsZ j) 0 = rmZ j := by
  intro j hj hh
  obtain ⟨h1, h2, h3⟩ := cast_has hi.cc hj hh
  have hl := h.lt
  have kf := keep_is (f := (f : Int)) (by omega) (by omega) hj h2
  rw [Int.toNat_natCast] at kf
  have lt := ks_lt j
  have hb := hi.bk j hj h1
  have far : ∀ i, i = ksZ j ∨ i = rsZ j → i ≠ f ∧ i ≠ o ∧ i ≠ a ∧ i ≠ r := by
    intro i hi'
    match j, hj, hi', kf with
    | 0, _, hi', kf => simp only [ksZ, rsZ] at hi' kf; omega
    | 1, _, hi', kf => simp only [ksZ, rsZ] at hi' kf; omega
    | 2, _, hi', kf => simp only [ksZ, rsZ] at hi' kf; omega
    | 3, _, hi', kf => simp only [ksZ, rsZ] at hi' kf; omega
  have one : ∀ i, i = ksZ j ∨ i = rsZ j → i < 64 → nt (csB b f o a r (sg t 6) (sg t 4)) i 0 = nt b i 0 := by
    intro i hi' hl'
    obtain ⟨n1, n2, n3, n4⟩ := far i hi'
    rw [h.at_ hl', if_neg n4, if_neg n3, if_neg n1, if_neg n2]
  rw [one _ (.inl rfl) lt.1, one _ (.inr rfl) lt.2]
  exact hb
theorem side_opp {y t : Int} (ht : t = 0 ∨ t = 1) (hb : -6 ≤ y ∧ y ≤ 6) (h0 : y ≠ 0) (hs : sideZ y ≠ t) : sideZ y = 1 - t := by
  unfold sideZ at hs ⊢
  rw [if_neg (by omega)] at hs ⊢
  rcases ht with rfl | rfl <;> split at hs <;> simp_all
theorem pawn_sg {b : List Int} {t f : Int} (ht : t = 0 ∨ t = 1) (hs : sideZ (nt b f.toNat 0) = t) (hp : pawnB b f = true) : nt b f.toNat 0 = sg t 1 := by
  unfold pawnB at hp
  rw [Bool.or_eq_true, beq_iff_eq, beq_iff_eq] at hp
  rcases hp with e | e <;> rw [e] at hs ⊢ <;> rcases ht with rfl | rfl <;> first | rfl | (exact absurd hs (by decide))
theorem step_sound {b : List Int} {t c e f o p : Int} (hi : PosI b t c e) (f0 : 0 ≤ f ∧ f < 64) (o0 : 0 ≤ o ∧ o < 64) (hp : 0 ≤ p ∧ p ≤ 5) (hg : goodZ b t c e f o p = true)
    (hck : checkZ (behB b t f o p (takesZ b t e f o) (rightZ b c f o)) t = false) : PosI (behB b t f o p (takesZ b t e f o) (rightZ b c f o)) (1 - t) (castJ c f o 4) (epZ b f o) := by
  have hlen := hi.b8.1
  have ht := hi.tt
  unfold goodZ at hg
  rw [Bool.and_eq_true] at hg
  obtain ⟨hfm, hgo⟩ := hg
  unfold formedZ at hfm
  rw [Bool.and_eq_true, Bool.and_eq_true, beq_iff_eq, bne_iff_ne] at hfm
  obtain ⟨sf, so, hpr⟩ := hfm
  have cf := cell_bd hi.b8 hi.ok f0.1 f0.2
  have co := cell_bd hi.b8 hi.ok o0.1 o0.2
  have fo : f ≠ o := fun e => by subst e; exact so sf
  by_cases hR : rightZ b c f o = 0
  · rw [hR] at hck ⊢
    rw [hR] at hgo
    rw [nc_shape] at hck ⊢
    by_cases hpw : pawnB b f = true
    · rw [if_pos hpw] at hgo
      have hx := pawn_sg ht sf hpw
      -- what a pawn does
      have geo : ∃ d : Int, 0 ≤ d ∧ (∀ n : Nat, co1 (o, n) ≤ co1 (f, n) + d) ∧ goneZ t f + d ≤ goneZ t o ∧ (d = 0 ∨ d = 1 ∧ 0 ≤ takesZ b t e f o) ∧ (t = 0 → f / 8 < o / 8) ∧ (t = 1 → o / 8 < f / 8) ∧ (takesZ b t e f o = -1 ∨ hitsZ b f o = true ∧ 0 ≤ takesZ b t e f o) := by
        unfold pawnR at hgo
        rw [Bool.or_eq_true, Bool.or_eq_true, Bool.and_eq_true, decide_eq_true_eq, decide_eq_true_eq, decide_eq_true_eq] at hgo
        have same : o % 8 = f % 8 → ∀ n : Nat, co1 (o, n) ≤ co1 (f, n) + 0 := by intro h n; unfold co1; simp only [h]; omega
        rcases hgo with ⟨a1, a2⟩ | ⟨a1, a2, a3, _⟩ | ⟨a1, a2⟩
        · have tk : takesZ b t e f o = -1 := by
            unfold takesZ; rw [if_neg (by omega), if_neg]; rintro ⟨_, _, _, h4⟩; unfold upZ at a2; split at a2 <;> omega
          refine ⟨0, Int.le_refl _, same (by unfold upZ at a2; split at a2 <;> omega), ?_, .inl rfl, ?_, ?_, .inl tk⟩
          · unfold goneZ; unfold upZ at a2; rcases ht with rfl | rfl
            · rw [if_neg (by decide)] at a2; rw [if_pos rfl, if_pos rfl]; omega
            · rw [if_pos rfl] at a2; rw [if_neg (by decide), if_neg (by decide)]; omega
          · intro h; subst h; unfold upZ at a2; rw [if_neg (by decide)] at a2; omega
          · intro h; subst h; unfold upZ at a2; rw [if_pos rfl] at a2; omega
        · have tk : takesZ b t e f o = -1 := by
            unfold takesZ; rw [if_neg (by omega), if_neg]; rintro ⟨_, _, _, h4⟩; unfold upZ at a2; split at a2 <;> omega
          refine ⟨0, Int.le_refl _, same (by unfold upZ at a2; split at a2 <;> omega), ?_, .inl rfl, ?_, ?_, .inl tk⟩
          · unfold goneZ; unfold upZ at a2; rcases ht with rfl | rfl
            · rw [if_neg (by decide)] at a2; rw [if_pos rfl, if_pos rfl]; omega
            · rw [if_pos rfl] at a2; rw [if_neg (by decide), if_neg (by decide)]; omega
          · intro h; subst h; unfold upZ at a2; rw [if_neg (by decide)] at a2; omega
          · intro h; subst h; unfold upZ at a2; rw [if_pos rfl] at a2; omega
        · have hh := headHit a1
          have dg : ∃ u : Int, (u = 1 ∧ t = 0 ∨ u = -1 ∧ t = 1) ∧ o / 8 = f / 8 + u ∧ (o % 8 = f % 8 + 1 ∨ o % 8 + 1 = f % 8) := by
            rcases ht with rfl | rfl
            · have := rayT_at paw_p f0.1 f0.2 (b := b) hx hh
              exact ⟨1, .inl ⟨rfl, rfl⟩, of_decide_eq_true this⟩
            · have := rayT_at paw_m f0.1 f0.2 (b := b) hx hh
              exact ⟨-1, .inr ⟨rfl, rfl⟩, of_decide_eq_true this⟩
          obtain ⟨u, hu, g1, g2⟩ := dg
          refine ⟨1, by decide, fun n => ?_, ?_, .inr ⟨rfl, a2⟩, ?_, ?_, .inr ⟨hh, a2⟩⟩
          · unfold co1 distZ; simp only; split <;> split <;> omega
          · unfold goneZ; rcases hu with ⟨rfl, rfl⟩ | ⟨rfl, rfl⟩
            · rw [if_pos rfl, if_pos rfl]; omega
            · rw [if_neg (by decide), if_neg (by decide)]; omega
          · intro h; rcases hu with ⟨rfl, _⟩ | ⟨_, h5⟩ <;> omega
          · intro h; rcases hu with ⟨_, h5⟩ | ⟨rfl, _⟩ <;> omega
      obtain ⟨d, d0, d1, d2, d3, r0, r1, tkh⟩ := geo
      -- what it takes
      have tkc : (takesZ b t e f o = -1 ∨ (0 ≤ takesZ b t e f o ∧ takesZ b t e f o < 64 ∧ takesZ b t e f o ≠ f ∧ sideZ (nt b (takesZ b t e f o).toNat 0) = 1 - t ∧ nt b (takesZ b t e f o).toNat 0 ≠ sg (1 - t) 6)) ∧ (takesZ b t e f o = o ∨ nt b o.toNat 0 = 0) ∧ (takesZ b t e f o = o ∨ takesZ b t e f o = -1 ∨ (16 ≤ takesZ b t e f o ∧ takesZ b t e f o < 48)) := by
        by_cases ho : nt b o.toNat 0 = 0
        · rcases tkh with h | ⟨hh, h⟩
          · exact ⟨.inl h, .inr ho, .inr (.inl h)⟩
          · have hv : takesZ b t e f o = passedZ b t e := by
              unfold takesZ at h ⊢
              rw [if_neg (by omega)] at h ⊢
              split at h
              · rename_i h5; rw [if_pos h5]
              · omega
            rw [hv] at h ⊢
            unfold passedZ at h ⊢
            split at h
            · omega
            · rename_i n1
              rw [if_neg n1]
              split at h
              · rename_i n2
                rw [if_pos n2]
                obtain ⟨m1, m2, m3, m4, m5⟩ := n2
                subst m1
                refine ⟨.inr ⟨by omega, by omega, fun e2 => ?_, by rw [m5]; decide, by rw [m5]; decide⟩, .inr ho, .inr (.inr (by omega))⟩
                rw [e2] at m5; rw [hx] at m5; exact absurd m5 (by decide)
              · rename_i n2
                rw [if_neg n2]
                split at h
                · rename_i n3
                  rw [if_pos n3]
                  obtain ⟨m1, m2, m3, m4, m5⟩ := n3
                  subst m1
                  refine ⟨.inr ⟨by omega, by omega, fun e2 => ?_, by rw [m5]; decide, by rw [m5]; decide⟩, .inr ho, .inr (.inr (by omega))⟩
                  rw [e2] at m5; rw [hx] at m5; exact absurd m5 (by decide)
                · omega
        · have hv : takesZ b t e f o = o := if_pos ho
          rcases tkh with h | ⟨hh, h⟩
          · omega
          · rw [hv]
            exact ⟨.inr ⟨o0.1, o0.2, Ne.symm fo, side_opp ht co ho so, no_king hi f0.1 f0.2 o0.1 o0.2 sf hh⟩, .inl rfl, .inl rfl⟩
      obtain ⟨_, _, _, hri, _⟩ := wrong_is hi.wr
      have kf1 : kindZ (nt b f.toNat 0) = 1 := by rw [hx]; rcases ht with rfl | rfl <;> decide
      have frim := hri f.toNat (by omega) kf1
      rw [show ((f.toNat : Nat) : Int) = f by omega] at frim
      by_cases hend : o / 8 = endZ t
      · rw [if_pos ⟨hpw, hend⟩, decide_eq_true_eq] at hpr
        have hnew : newZ b t f p = sg t p := by
          unfold newZ sg; rw [if_pos (by omega)]; rcases ht with rfl | rfl
          · rw [if_pos rfl]; omega
          · rw [if_neg (by decide)]; omega
        rw [hnew] at hck ⊢
        have q : Fin 7 := ⟨p.toNat, by omega⟩
        have hq : sg t p = sg t (((⟨p.toNat, by omega⟩ : Fin 7).val : Nat) : Int) := by show sg t p = sg t ((p.toNat : Nat) : Int); rw [show ((p.toNat : Nat) : Int) = p by omega]
        have nc : Nc b t f o (takesZ b t e f o) (sg t p) := ⟨hlen, ht, f0, o0, fo, sf, by rw [hq]; exact sg_side ht _ (by show p.toNat ≠ 0; omega), by unfold sg; split <;> omega, tkc.1, tkc.2.1⟩
        exact nc_prom hi nc hx ⟨p.toNat, by omega⟩ ⟨by show 2 ≤ p.toNat; omega, by show p.toNat ≤ 5; omega⟩ hq tkc.2.2 hck
      · rw [if_neg (fun hh => hend hh.2), decide_eq_true_eq] at hpr
        subst hpr
        have hnew : newZ b t f 0 = nt b f.toNat 0 := if_neg (by decide)
        rw [hnew] at hck ⊢
        have nc : Nc b t f o (takesZ b t e f o) (nt b f.toNat 0) := ⟨hlen, ht, f0, o0, fo, sf, sf, cf, tkc.1, tkc.2.1⟩
        refine nc_same hi nc rfl (fun dd => ?_) tkc.2.2 (fun _ => ⟨d, d0, d1, d2, ?_, ?_, d3⟩) hck
        · rw [hx]
          have h1 := bis_sg ht dd o.toNat (1 : Fin 7) (by decide)
          have h2 := bis_sg ht dd f.toNat (1 : Fin 7) (by decide)
          exact h1.trans h2.symm
        · unfold goneZ; unfold endZ at hend
          rcases ht with rfl | rfl
          · rw [if_pos rfl]; rw [if_neg (by decide)] at hend; omega
          · rw [if_neg (by decide)]; rw [if_pos rfl] at hend; omega
        · unfold endZ at hend
          rcases ht with rfl | rfl
          · rw [if_neg (by decide)] at hend; have := r0 rfl; omega
          · rw [if_pos rfl] at hend; have := r1 rfl; omega
    · rw [if_neg hpw] at hgo
      rw [if_neg (fun hh => hpw hh.1), decide_eq_true_eq] at hpr
      subst hpr
      have hh : hitsZ b f o = true := by
        rw [Bool.or_eq_true, decide_eq_true_eq] at hgo
        rcases hgo with h | h
        · exact h
        · omega
      have hnew : newZ b t f 0 = nt b f.toNat 0 := if_neg (by decide)
      rw [hnew] at hck ⊢
      have hpf : pawnB b f = false := by cases h : pawnB b f with | true => exact absurd h hpw | false => rfl
      have tkc : (takesZ b t e f o = -1 ∨ (0 ≤ takesZ b t e f o ∧ takesZ b t e f o < 64 ∧ takesZ b t e f o ≠ f ∧ sideZ (nt b (takesZ b t e f o).toNat 0) = 1 - t ∧ nt b (takesZ b t e f o).toNat 0 ≠ sg (1 - t) 6)) ∧ (takesZ b t e f o = o ∨ nt b o.toNat 0 = 0) ∧ (takesZ b t e f o = o ∨ takesZ b t e f o = -1 ∨ (16 ≤ takesZ b t e f o ∧ takesZ b t e f o < 48)) := by
        by_cases ho : nt b o.toNat 0 = 0
        · have hv : takesZ b t e f o = -1 := by unfold takesZ; rw [if_neg (by omega), if_neg (fun h => hpw h.1)]
          exact ⟨.inl hv, .inr ho, .inr (.inl hv)⟩
        · have hv : takesZ b t e f o = o := if_pos ho
          rw [hv]
          exact ⟨.inr ⟨o0.1, o0.2, Ne.symm fo, side_opp ht co ho so, no_king hi f0.1 f0.2 o0.1 o0.2 sf hh⟩, .inl rfl, .inl rfl⟩
      have nc : Nc b t f o (takesZ b t e f o) (nt b f.toNat 0) := ⟨hlen, ht, f0, o0, fo, sf, sf, cf, tkc.1, tkc.2.1⟩
      refine nc_same hi nc rfl (fun dd => ?_) tkc.2.2 (fun hx1 => ?_) hck
      · unfold bisP
        by_cases hb3 : nt b f.toNat 0 = sg t 3
        · have col : darkF true o = darkF true f := by
            rcases ht with rfl | rfl
            · have := rayT_at bis_p f0.1 f0.2 (b := b) hb3 hh; simpa using this
            · have := rayT_at bis_m f0.1 f0.2 (b := b) hb3 hh; simpa using this
          have col2 : darkF dd o = darkF dd f := by
            unfold darkF at col ⊢
            cases dd <;> simp_all
          rw [show ((o.toNat : Nat) : Int) = o by omega, show ((f.toNat : Nat) : Int) = f by omega, col2]
        · rw [beq_eq_false_iff_ne.2 hb3]; rfl
      · exfalso
        unfold pawnB at hpf
        rw [hx1] at hpf
        rcases ht with rfl | rfl <;> exact absurd hpf (by decide)
  · -- castling
    have key : ∀ (fn on an rn : Nat) (R : Int), f = (fn : Int) → o = (on : Int) → nt b fn 0 = sg t 6 → nt b on 0 = 0 → nt b an 0 = 0 → nt b rn 0 = sg t 4 → fn < 64 ∧ on < 64 ∧ an < 64 ∧ rn < 64 → (fn ≠ on ∧ fn ≠ an ∧ fn ≠ rn ∧ on ≠ an ∧ on ≠ rn ∧ an ≠ rn) → ((fn = 4 ∧ on < 8 ∧ an < 8 ∧ rn < 8) ∨ (fn = 60 ∧ 56 ≤ on ∧ 56 ≤ an ∧ 56 ≤ rn)) → rightZ b c f o = R →
        behB b t f o 0 (-1) R = csB b fn on an rn (sg t 6) (sg t 4) → PosI (behB b t f o p (takesZ b t e f o) (rightZ b c f o)) (1 - t) (castJ c f o 4) (epZ b f o) := by
      intro fn on an rn R ef eo v1 v2 v3 v4 hl hn hw hRR hB
      have hfn : f.toNat = fn := by omega
      have hon : o.toNat = on := by omega
      have hpf : pawnB b f = false := by unfold pawnB; rw [hfn, v1]; rcases ht with rfl | rfl <;> decide
      have p0 : p = 0 := by rw [if_neg (fun hh => by rw [hpf] at hh; cases hh.1), decide_eq_true_eq] at hpr; exact hpr
      have tk : takesZ b t e f o = -1 := by unfold takesZ; rw [hon, if_neg (by omega), if_neg (fun hh => by rw [hpf] at hh; cases hh.1)]
      have cs : Cs b t fn on an rn := ⟨hlen, ht, hl, hn, v1, v2, v3, v4⟩
      rw [hRR, tk, p0, hB] at hck ⊢
      refine Cs.pos hi cs (cast_bd c f o) (ep_bd f0 o0) ?_ hck
      rw [ef]
      exact cs_back hi cs hw
    unfold rightZ at hR
    have t0 : ∀ v : Int, nt b f.toNat 0 = v → sideZ v = t := fun v hv => by rw [← hv]; exact sf
    by_cases h1 : hasZ c 1 = true ∧ f = 4 ∧ o = 6 ∧ nt b 4 0 = 6 ∧ nt b 5 0 = 0 ∧ nt b 6 0 = 0
    · obtain ⟨a1, a2, a3, a4, a5, a6⟩ := h1
      have tz : t = 0 := by have := t0 6 (by rw [a2]; exact a4); exact this.symm
      have hr := (hi.bk 0 (by decide) a1).2
      subst tz; subst a2; subst a3
      exact key 4 6 5 7 1 rfl rfl a4 a6 a5 hr (by decide) (by decide) (.inl (by decide)) (by unfold rightZ; rw [if_pos ⟨a1, rfl, rfl, a4, a5, a6⟩]) (by unfold behB b5Z b3Z b1Z csB; rw [if_neg (by decide), if_pos (by decide), if_neg (by decide), if_neg (by decide)]; rw [show nt b (4 : Int).toNat 0 = 6 from a4]; rfl)
    · rw [if_neg h1] at hR
      by_cases h2 : hasZ c 2 = true ∧ f = 4 ∧ o = 2 ∧ nt b 4 0 = 6 ∧ nt b 1 0 = 0 ∧ nt b 2 0 = 0 ∧ nt b 3 0 = 0
      · obtain ⟨a1, a2, a3, a4, a5, a6, a7⟩ := h2
        have tz : t = 0 := by have := t0 6 (by rw [a2]; exact a4); exact this.symm
        have hr := (hi.bk 1 (by decide) a1).2
        subst tz; subst a2; subst a3
        exact key 4 2 3 0 2 rfl rfl a4 a6 a7 hr (by decide) (by decide) (.inl (by decide)) (by unfold rightZ; rw [if_neg h1, if_pos ⟨a1, rfl, rfl, a4, a5, a6, a7⟩]) (by unfold behB b5Z b3Z b1Z csB; rw [if_pos (by decide), if_neg (by decide), if_neg (by decide), if_neg (by decide)]; rw [show nt b (4 : Int).toNat 0 = 6 from a4]; rfl)
      · rw [if_neg h2] at hR
        by_cases h3 : hasZ c 4 = true ∧ f = 60 ∧ o = 62 ∧ nt b 60 0 = -6 ∧ nt b 61 0 = 0 ∧ nt b 62 0 = 0
        · obtain ⟨a1, a2, a3, a4, a5, a6⟩ := h3
          have tz : t = 1 := by have := t0 (-6) (by rw [a2]; exact a4); exact this.symm
          have hr := (hi.bk 2 (by decide) a1).2
          subst tz; subst a2; subst a3
          exact key 60 62 61 63 4 rfl rfl a4 a6 a5 hr (by decide) (by decide) (.inr (by decide)) (by unfold rightZ; rw [if_neg h1, if_neg h2, if_pos ⟨a1, rfl, rfl, a4, a5, a6⟩]) (by unfold behB b5Z b3Z b1Z csB; rw [if_neg (by decide), if_pos (by decide), if_neg (by decide), if_neg (by decide)]; rw [show nt b (60 : Int).toNat 0 = -6 from a4]; rfl)
        · rw [if_neg h3] at hR
          by_cases h4 : hasZ c 8 = true ∧ f = 60 ∧ o = 58 ∧ nt b 60 0 = -6 ∧ nt b 57 0 = 0 ∧ nt b 58 0 = 0 ∧ nt b 59 0 = 0
          · obtain ⟨a1, a2, a3, a4, a5, a6, a7⟩ := h4
            have tz : t = 1 := by have := t0 (-6) (by rw [a2]; exact a4); exact this.symm
            have hr := (hi.bk 3 (by decide) a1).2
            subst tz; subst a2; subst a3
            exact key 60 58 59 56 8 rfl rfl a4 a6 a7 hr (by decide) (by decide) (.inr (by decide)) (by unfold rightZ; rw [if_neg h1, if_neg h2, if_neg h3, if_pos ⟨a1, rfl, rfl, a4, a5, a6, a7⟩]) (by unfold behB b5Z b3Z b1Z csB; rw [if_pos (by decide), if_neg (by decide), if_neg (by decide), if_neg (by decide)]; rw [show nt b (60 : Int).toNat 0 = -6 from a4]; rfl)
          · rw [if_neg h4] at hR; exact absurd rfl hR
end Go.Proofs.Ytpjocgebnodnoaa
