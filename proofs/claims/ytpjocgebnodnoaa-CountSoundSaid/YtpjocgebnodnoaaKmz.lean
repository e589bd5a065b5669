import Derived.Test.YtpjocgebnodnoaaKkz
namespace Go.Proofs.Ytpjocgebnodnoaa
open Go.RowKit
set_option linter.unusedVariables false
set_option linter.unusedSimpArgs false
set_option maxRecDepth 100000
theorem b8_b1 {b : List Int} (h : B8 b) (tk : Int) : B8 (b1Z b tk) := by unfold b1Z; split; exact b8_set h _ (by decide) (by decide); exact h
theorem ok_b1 {b : List Int} (h : okB b = true) (hb : b.length = 64) (tk : Int) : okB (b1Z b tk) = true := by unfold b1Z; split; exact ok_set h hb _ (by decide); exact h
section
variable {b : List Int} {t f o tk x : Int}
theorem Nc.b8' (h : Nc b t f o tk x) (h8 : B8 b) : B8 (ncB b f o tk x) := b8_set (b8_set (b8_b1 h8 tk) _ (by have := h.xb; omega) (by have := h.xb; omega)) _ (by decide) (by decide)
theorem Nc.ok' (h : Nc b t f o tk x) (ho : okB b = true) : okB (ncB b f o tk x) = true := ok_set (ok_set (ok_b1 ho h.hb tk) (b1_len h.hb tk) _ h.xb) (by rw [List.length_set]; exact b1_len h.hb tk) _ (by decide)
theorem Nc.king_own (h : Nc b t f o tk x) (hk : inB x 6 t = inB (nt b f.toNat 0) 6 t) (h1 : manyZ b 6 t = 1) : manyZ (ncB b f o tk x) 6 t = 1 := by
  have := h.own_many 6; rw [hk] at this; omega
theorem king_sg {y s : Int} (hs : s = 0 ∨ s = 1) (h : inB y 6 s = true) : y = sg s 6 := by
  have h1 := inB_side h
  have hm := man_of hs h1
  unfold inB at h
  rw [Bool.and_eq_true, Bool.or_eq_true] at h
  have hk : kindZ y = 6 := by
    rcases h.2 with h2 | h2
    · cases h2
    · simpa using h2
  have hb := manB_bd hm
  unfold kindZ at hk
  unfold sideZ at h1
  rw [if_neg (by omega)] at hk h1
  unfold sg
  rcases hs with rfl | rfl
  · rw [if_pos rfl]; split at h1
    · rename_i h5; rw [if_pos h5] at hk; exact hk
    · cases h1
  · rw [if_neg (by decide)]; split at h1
    · cases h1
    · rename_i h5; rw [if_neg h5] at hk; omega
theorem Nc.king_opp (h : Nc b t f o tk x) (h1 : manyZ b 6 (1 - t) = 1) : manyZ (ncB b f o tk x) 6 (1 - t) = 1 := by
  have c := h.opp (P := fun _ v => inB v 6 (1 - t)) (fun _ => inB_0 _ _) (fun _ _ hv => inB_side hv)
  rw [← many_cnt, ← many_cnt] at c
  rcases h.tk_ with e | ⟨e1, e2, e3, e4, e5⟩
  · rw [if_neg (by omega)] at c; omega
  · rw [if_pos e1] at c
    have : inB (nt b tk.toNat 0) 6 (1 - t) = false := by
      cases hh : inB (nt b tk.toNat 0) 6 (1 - t) with
      | false => rfl
      | true => exact absurd (king_sg h.t1 hh) e5
    rw [ib_f this] at c; omega
theorem Nc.wrong' (h : Nc b t f o tk x) (hw : wrongZ b = 0) (hk : inB x 6 t = inB (nt b f.toNat 0) 6 t) (hr : kindZ x = 1 → ¬ (o / 8 = 0 ∨ o / 8 = 7)) : wrongZ (ncB b f o tk x) = 0 := by
  obtain ⟨ho, k0, k1, hri, m0, m1⟩ := wrong_is hw
  have ho' := h.o0
  have own0 := h.own_0
  have opp0 : manyZ (ncB b f o tk x) 0 (1 - t) ≤ manyZ b 0 (1 - t) := by have := h.opp_many; split at this <;> omega
  have rim : ∀ i, i < 64 → kindZ (nt (ncB b f o tk x) i 0) = 1 → ¬ ((i : Int) / 8 = 0 ∨ (i : Int) / 8 = 7) := by
    intro i hi hki
    rw [h.at_ hi] at hki
    have z : ¬ kindZ 0 = 1 := by decide
    split at hki
    · exact absurd hki z
    · split at hki
      · rename_i e; rw [show (i : Int) = o by omega]; exact hr hki
      · split at hki
        · exact absurd hki z
        · exact hri i hi hki
  rcases h.tt with e | e
  · subst e
    exact wrong_of (h.ok' ho) (h.king_own hk k0) (h.king_opp k1) rim (by rw [own0]; exact m0) (Nat.le_trans opp0 m1)
  · subst e
    exact wrong_of (h.ok' ho) (h.king_opp k0) (h.king_own hk k1) rim (Nat.le_trans opp0 m0) (by rw [own0]; exact m1)
theorem ks_lt (j : Nat) : ksZ j < 64 ∧ rsZ j < 64 := by
  match j with
  | 0 => decide
  | 1 => decide
  | 2 => decide
  | (j + 3) => exact ⟨by show 60 < 64; decide, by show 56 < 64; decide⟩
theorem Nc.back (h : Nc b t f o tk x) {c : Int} (hc : 0 ≤ c ∧ c ≤ 15) (hbk : ∀ j, j < 4 → hasZ c ((2 ^ j : Nat) : Int) = true → nt b (ksZ j) 0 = kmZ j ∧ nt b (rsZ j) 0 = rmZ j)
    (htk : tk = o ∨ tk = -1 ∨ (16 ≤ tk ∧ tk < 48)) {j : Nat} (hj : j < 4) (hh : hasZ (castJ c f o 4) ((2 ^ j : Nat) : Int) = true) : nt (ncB b f o tk x) (ksZ j) 0 = kmZ j ∧ nt (ncB b f o tk x) (rsZ j) 0 = rmZ j := by
  obtain ⟨h1, h2, h3⟩ := cast_has hc hj hh
  have kf := keep_is h.f0.1 h.f0.2 hj h2
  have ko := keep_is h.o0.1 h.o0.2 hj h3
  have lt := ks_lt j
  have far : ∀ i, i = ksZ j ∨ i = rsZ j → i < 16 ∨ 48 ≤ i := by
    intro i hi
    match j, hj, hi with
    | 0, _, hi => simp only [ksZ, rsZ] at hi; omega
    | 1, _, hi => simp only [ksZ, rsZ] at hi; omega
    | 2, _, hi => simp only [ksZ, rsZ] at hi; omega
    | 3, _, hi => simp only [ksZ, rsZ] at hi; omega
  have one : ∀ i, (i = ksZ j ∨ i = rsZ j) → i < 64 → i ≠ f.toNat → i ≠ o.toNat → nt (ncB b f o tk x) i 0 = nt b i 0 := by
    intro i hi hl n1 n2
    rw [h.at_ hl, if_neg n1, if_neg n2, if_neg]
    rintro ⟨a, e⟩
    have := far i hi
    rcases htk with e2 | e2 | e2
    · subst e2; exact n2 e
    · omega
    · omega
  rw [one _ (.inl rfl) lt.1 (Ne.symm kf.1) (Ne.symm ko.1), one _ (.inr rfl) lt.2 (Ne.symm kf.2) (Ne.symm ko.2)]
  exact hbk j hj h1
theorem ep_bd {f o : Int} (hf : 0 ≤ f ∧ f < 64) (ho : 0 ≤ o ∧ o < 64) : -1 ≤ epZ b f o ∧ epZ b f o ≤ 63 := by unfold epZ; split <;> omega
theorem cast_bd (c f o : Int) : 0 ≤ castJ c f o 4 ∧ castJ c f o 4 ≤ 15 := by have := castJ_bd c f o 4 (by omega); omega
theorem nc_same {c e : Int} (hi : PosI b t c e) (h : Nc b t f o tk x) (hx : x = nt b f.toNat 0) (hbis : ∀ d, bisP t d o.toNat x = bisP t d f.toNat x) (htk : tk = o ∨ tk = -1 ∨ (16 ≤ tk ∧ tk < 48))
    (hp : x = sg t 1 → ∃ d : Int, 0 ≤ d ∧ (∀ n : Nat, co1 (o, n) ≤ co1 (f, n) + d) ∧ goneZ t f + d ≤ goneZ t o ∧ goneZ t o ≤ 5 ∧ ¬ (o / 8 = 0 ∨ o / 8 = 7) ∧ (d = 0 ∨ d = 1 ∧ 0 ≤ tk)) (hck : checkZ (ncB b f o tk x) t = false) :
    PosI (ncB b f o tk x) (1 - t) (castJ c f o 4) (epZ b f o) := by
  have hk : inB x 6 t = inB (nt b f.toNat 0) 6 t := by rw [hx]
  have kp : kindZ x = 1 → x = sg t 1 := by
    intro hk1
    have hm := man_of h.tt h.sx
    have hb := manB_bd hm
    have h1 := h.sx
    unfold kindZ at hk1
    unfold sideZ at h1
    rw [if_neg (by omega)] at hk1 h1
    unfold sg
    have := h.tt
    split at hk1 <;> split at h1 <;> split <;> omega
  have om : ∀ k, manyZ (ncB b f o tk x) k t = manyZ b k t := fun k => by have := h.own_many k; rw [hx] at this; rw [hx]; omega
  have ob : ∀ d, bcnt (ncB b f o tk x) t d = bcnt b t d := fun d => by
    rw [bcnt_cnt, bcnt_cnt]
    have := h.own (P := bisP t d) (fun i => bis_0 h.tt d i) (fun _ _ hv => bis_side h.tt hv)
    rw [hbis d, ← hx] at this; omega
  refine { b8 := h.b8' hi.b8, wr := h.wrong' hi.wr hk (fun hk1 => by obtain ⟨d, _, _, _, _, h5, _⟩ := hp (kp hk1); exact h5), tt := h.t1, cc := cast_bd c f o, ee := ep_bd h.f0 h.o0, bk := fun j hj hh => h.back hi.cc hi.bk htk hj hh, ck := by rw [show 1 - (1 - t) = t by omega]; exact hck, pr := fun s hs => ?_, mt := fun s hs => ?_ }
  · rcases h.sides hs with rfl | rfl
    · have h1 := prom_mono (b := b) (b' := ncB b f o tk x) (s := s) ⟨by rw [om]; exact Nat.le_refl _, by rw [om]; exact Nat.le_refl _, by rw [om]; exact Nat.le_refl _, by rw [ob]; exact Nat.le_refl _, by rw [ob]; exact Nat.le_refl _⟩
      have h2 := hi.pr s hs
      rw [om 1]; omega
    · exact h.pr_opp (hi.pr _ hs)
  · rcases h.sides hs with rfl | rfl
    · by_cases hx1 : x = sg s 1
      · obtain ⟨d, d0, d1, d2, d3, d4, d5⟩ := hp hx1
        have nok : nt b o.toNat 0 ≠ sg s 1 := by
          intro hh
          have hfo := h.fo
          rcases h.emp with e | e
          · rcases h.tk_ with e2 | ⟨_, _, _, e2, _⟩
            · have := h.o0; omega
            · have := opp_man h.t1 e2 (1 : Fin 7) (by decide); rw [show 1 - (1 - s) = s by omega, e] at this; exact this hh
          · rw [e] at hh; exact zero_man hs hh
        refine mi_go (d := d) (hi.mt s hs) (by rw [← hx]; exact hx1) h.f0 h.o0 nok (fun i i0 i1 => ?_) d0 d1 d2 d3 ?_
        · rw [h.pawns i0 i1]
          constructor
          · rintro (h1 | h1); exact .inl h1; exact .inr h1.1
          · rintro (h1 | h1); exact .inl h1; exact .inr ⟨h1, hx1⟩
        · have := h.opp_many
          rcases d5 with d5 | ⟨d5, d6⟩
          · split at this <;> omega
          · rw [if_pos d6] at this; omega
      · refine mi_keep (hi.mt s hs) (fun i i0 i1 => ?_) (by have := h.opp_many; split at this <;> omega)
        rw [h.pawns i0 i1]
        constructor
        · rintro (h1 | h1); exact h1.1; exact absurd h1.2 hx1
        · intro h1
          refine .inl ⟨h1, fun e => ?_⟩
          rw [e, ← hx] at h1; exact hx1 h1
    · exact h.mt_opp (hi.mt _ hs)
theorem in_sg {s : Int} (hs : s = 0 ∨ s = 1) : ∀ q k : Fin 7, q.val ≠ 0 → k.val ≠ 0 → inB (sg s (q.val : Int)) (k.val : Int) s = (q.val == k.val) := by rcases hs with rfl | rfl <;> decide
theorem bis_sg {s : Int} (hs : s = 0 ∨ s = 1) (d : Bool) (i : Nat) : ∀ q : Fin 7, q.val ≠ 0 → bisP s d i (sg s (q.val : Int)) = ((q.val == 3) && darkF d (i : Int)) := by
  intro q hq
  unfold bisP
  have : (sg s (q.val : Int) == sg s 3) = (q.val == 3) := by
    revert q
    rcases hs with rfl | rfl <;> decide
  rw [this]
theorem dark_one (i : Int) : ib (darkF true i) + ib (darkF false i) = 1 := by
  unfold darkF
  by_cases h : (i % 8 + i / 8) % 2 = 0
  · rw [decide_eq_true h]; rfl
  · rw [decide_eq_false h]; rfl
theorem nc_prom {c e : Int} (hi : PosI b t c e) (h : Nc b t f o tk x) (hf : nt b f.toNat 0 = sg t 1) (q : Fin 7) (hq : 2 ≤ q.val ∧ q.val ≤ 5) (hx : x = sg t (q.val : Int)) (htk : tk = o ∨ tk = -1 ∨ (16 ≤ tk ∧ tk < 48)) (hck : checkZ (ncB b f o tk x) t = false) :
    PosI (ncB b f o tk x) (1 - t) (castJ c f o 4) (epZ b f o) := by
  have hq0 : q.val ≠ 0 := by omega
  have k6 : inB x 6 t = false := by rw [hx]; have := in_sg h.tt q (6 : Fin 7) hq0 (by decide); rw [show ((6 : Fin 7).val : Int) = 6 from rfl] at this; rw [this]; exact beq_eq_false_iff_ne.2 (by show q.val ≠ 6; omega)
  have f6 : inB (nt b f.toNat 0) 6 t = false := by rw [hf]; have := in_sg h.tt (1 : Fin 7) (6 : Fin 7) (by decide) (by decide); exact this
  have kx : kindZ x ≠ 1 := by
    intro hk
    have : inB x 1 t = true := by unfold inB; rw [man_of h.tt h.sx, h.sx, hk]; simp
    rw [hx] at this
    have h2 := in_sg h.tt q (1 : Fin 7) hq0 (by decide)
    rw [show ((1 : Fin 7).val : Int) = 1 from rfl] at h2
    rw [h2] at this
    have : q.val = 1 := by simpa using this
    omega
  have om : ∀ k : Fin 7, k.val ≠ 0 → manyZ (ncB b f o tk x) (k.val : Int) t + ib ((1 : Nat) == k.val) = manyZ b (k.val : Int) t + ib (q.val == k.val) := fun k hk => by
    have := h.own_many (k.val : Int)
    rw [hf, hx] at this
    rw [in_sg h.tt q k hq0 hk] at this
    have h2 := in_sg h.tt (1 : Fin 7) k (by decide) hk
    rw [show sg t ((1 : Fin 7).val : Int) = sg t 1 from rfl] at h2
    rw [h2] at this
    rw [hx]; exact this
  have ob : ∀ d, bcnt (ncB b f o tk x) t d = bcnt b t d + ib ((q.val == 3) && darkF d (o.toNat : Int)) := fun d => by
    rw [bcnt_cnt, bcnt_cnt]
    have := h.own (P := bisP t d) (fun i => bis_0 h.tt d i) (fun _ _ hv => bis_side h.tt hv)
    rw [hf] at this
    have h1 := bis_sg h.tt d f.toNat (1 : Fin 7) (by decide)
    rw [show sg t ((1 : Fin 7).val : Int) = sg t 1 from rfl] at h1
    rw [h1] at this
    have h2 := bis_sg h.tt d o.toNat q hq0
    rw [← hx] at h2
    rw [h2] at this
    have h3 : ib (((1 : Fin 7).val == 3) && darkF d (f.toNat : Int)) = 0 := rfl
    omega
  have o1 : manyZ (ncB b f o tk x) 1 t + ib ((1 : Nat) == 1) = manyZ b 1 t + ib (q.val == 1) := om (1 : Fin 7) (by decide)
  have o2 : manyZ (ncB b f o tk x) 2 t + ib ((1 : Nat) == 2) = manyZ b 2 t + ib (q.val == 2) := om (2 : Fin 7) (by decide)
  have o4 : manyZ (ncB b f o tk x) 4 t + ib ((1 : Nat) == 4) = manyZ b 4 t + ib (q.val == 4) := om (4 : Fin 7) (by decide)
  have o5 : manyZ (ncB b f o tk x) 5 t + ib ((1 : Nat) == 5) = manyZ b 5 t + ib (q.val == 5) := om (5 : Fin 7) (by decide)
  have bt := ob true
  have bf := ob false
  have dk := dark_one (o.toNat : Int)
  have sum : manyZ (ncB b f o tk x) 1 t + 1 = manyZ b 1 t ∧ promZ (ncB b f o tk x) t ≤ promZ b t + 1 := by
    have q25 : q.val = 2 ∨ q.val = 3 ∨ q.val = 4 ∨ q.val = 5 := by omega
    rcases q25 with e | e | e | e
    all_goals
      rw [e] at o1 o2 o4 o5 bt bf
      simp [ib] at o1 o2 o4 o5 bt bf dk
      refine ⟨by omega, prom_one ?_ ?_ ?_ ?_ ?_ ?_⟩
      all_goals (try (split at bt <;> split at bf <;> simp_all <;> omega))
      all_goals (try omega)
  refine { b8 := h.b8' hi.b8, wr := h.wrong' hi.wr (by rw [k6, f6]) (fun hk1 => absurd hk1 kx), tt := h.t1, cc := cast_bd c f o, ee := ep_bd h.f0 h.o0, bk := fun j hj hh => h.back hi.cc hi.bk htk hj hh, ck := by rw [show 1 - (1 - t) = t by omega]; exact hck, pr := fun s hs => ?_, mt := fun s hs => ?_ }
  · rcases h.sides hs with rfl | rfl
    · have := hi.pr s hs; omega
    · exact h.pr_opp (hi.pr _ hs)
  · rcases h.sides hs with rfl | rfl
    · refine mi_drop (x := f) (hi.mt s hs) (fun i i0 i1 => ?_) (by have := h.opp_many; split at this <;> omega)
      rw [h.pawns i0 i1]
      constructor
      · rintro (h1 | h1)
        · exact h1
        · exfalso
          have h2 := h1.2
          apply kx
          rw [h2]; rcases hs with rfl | rfl <;> decide
      · intro h1; exact .inl h1
    · exact h.mt_opp (hi.mt _ hs)
end
end Go.Proofs.Ytpjocgebnodnoaa
