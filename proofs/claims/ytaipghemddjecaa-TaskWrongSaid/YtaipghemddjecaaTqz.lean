import Derived.Test.YtaipghemddjecaaTnz
namespace Go.Proofs.Ytaipghemddjecaa
open Go.RowKit
set_option linter.unusedVariables false
set_option linter.unusedSimpArgs false
theorem GoodF.dep {α : Type} {f : TS → α × TS} {g : α → TS → TS} (hf : GoodF (fun s => (f s).2)) (hg : ∀ n, GoodF (g n))
    (hok : ∀ s m, s.e = 0 → 0 ≤ s.a → s.a ≤ s.t.size → (f s).2.e = 0 → ((f (s.more m)).1 = (f s).1 ∧ (f (s.more m)).2 = (f s).2.more m) ∨ ((f s).2.a = s.t.size ∧ (s.t.size : Int) ≤ (f (s.more m)).2.a)) : GoodF (fun s => g (f s).1 (f s).2) := by
  refine ⟨fun s hs => ?_, fun s m he h0 h1 => ?_⟩
  · obtain ⟨a1, a2, a3⟩ := hf.off s hs
    obtain ⟨b1, b2, b3⟩ := (hg (f s).1).off (f s).2 (by rw [a3]; exact hs)
    exact ⟨b1.trans a1, b2.trans a2, b3.trans a3⟩
  · have G : GT m s (f s).2 (f (s.more m)).2 := hf.goes s m he h0 h1
    have K0 := hok s m he h0 h1
    have hs := size_app s.t m
    show GT m s (g (f s).1 (f s).2) (g (f (s.more m)).1 (f (s.more m)).2)
    generalize f s = X at G K0 ⊢
    generalize f (s.more m) = Y at G K0 ⊢
    obtain ⟨n, X⟩ := X
    obtain ⟨n', Y⟩ := Y
    dsimp only at G K0 ⊢
    have hYa : (0 : Int) ≤ Y.a := by have := G.ge'; omega
    have hXa : (0 : Int) ≤ X.a := by have := G.ge; omega
    have le1 := G.le; have ge1 := G.ge
    have hY : (g n' Y).t = s.t ++ m ∧ Y.a ≤ (g n' Y).a ∧ (g n' Y).a ≤ (s.t ++ m).size ∧ ((g n' Y).e = 0 ∨ (g n' Y).e = 1 ∨ (g n' Y).e = 2) := by
      by_cases hy : Y.e = 0
      · have b := (hg n').bd hy hYa (by rw [G.t']; exact G.le')
        rw [G.t'] at b
        exact ⟨b.1, b.2.1, b.2.2.1, b.2.2.2.1⟩
      · obtain ⟨b1, b2, b3⟩ := (hg n').off Y hy
        exact ⟨b1.trans G.t', by omega, by rw [b2]; exact G.le', by rw [b3]; exact G.ee'⟩
    have geY := G.ge'
    by_cases hx : X.e = 0
    · have bx := (hg n).bd hx hXa (by rw [G.t]; exact G.le)
      rw [G.t] at bx
      rcases K0 hx with ⟨hn, hyx⟩ | ⟨hxa, hlate⟩
      · subst hyx hn
        have K := (hg n').goes X m hx hXa (by rw [G.t]; exact G.le)
        have kok := K.ok; have klate := K.late
        rw [G.t] at kok klate
        exact ⟨bx.1, by omega, bx.2.2.1, bx.2.2.2.1, bx.2.2.2.2.1, bx.2.2.2.2.2, hY.1, by omega, hY.2.2.1, hY.2.2.2, K.app, kok, klate⟩
      · exact ⟨bx.1, by omega, bx.2.2.1, bx.2.2.2.1, bx.2.2.2.2.1, bx.2.2.2.2.2, hY.1, by omega, hY.2.2.1, hY.2.2.2,
          fun h => by have := bx.2.2.2.2.2 h; omega, fun h => .inr ⟨by omega, by omega⟩, fun h => by omega⟩
    · obtain ⟨b1, b2, b3⟩ := (hg n).off X hx
      refine ⟨b1.trans G.t, by omega, by omega, by rw [b3]; exact G.ee, fun h => by rw [b2]; exact G.one (b3 ▸ h), fun h => by rw [b2]; exact G.two (b3 ▸ h), hY.1, by omega, hY.2.2.1, hY.2.2.2, fun h => ?_, fun h => absurd (b3 ▸ h) hx, fun h => ?_⟩
      · obtain ⟨c1, c2⟩ := G.app (b3 ▸ h)
        obtain ⟨d1, d2, d3⟩ := (hg n').off Y (by omega)
        exact ⟨by omega, by omega⟩
      · have := G.late (b3 ▸ h); omega
theorem one_dep {ws : List ByteArray} (hw : apartB ws = true) {g : Int → TS → TS} (hg : ∀ n, GoodF (g n)) : GoodF (fun s => g (oneR ws s).1 (oneR ws s).2) :=
  GoodF.dep (f := oneR ws) (one_good hw).toGoodF hg fun s m he h0 h1 hz => .inl (by rw [one_same hw m he h0 h1 (.inl hz)]; exact ⟨rfl, rfl⟩)
theorem num_dep {l k : Int} (hl : 0 ≤ l ∧ l ≤ k ∧ k ≤ 1000000) {g : Int → TS → TS} (hg : ∀ n, GoodF (g n)) : GoodF (fun s => g (numR l k s).1 (numR l k s).2) :=
  GoodF.dep (f := numR l k) (num_good hl (fun _ s => s) (fun _ _ => ⟨rfl, rfl, rfl⟩) (fun _ _ _ => rfl)) hg fun s m he h0 h1 hz => by
    unfold numR at hz ⊢
    rw [if_pos he] at hz
    rw [if_pos he, if_pos (show (s.more m).e = 0 from he)]
    show ((numZ (s.t ++ m) s.a l k).2.1 = _ ∧ TS.at_ (s.more m) (numZ (s.t ++ m) s.a l k) = _) ∨ (_ ∧ (s.t.size : Int) ≤ (numZ (s.t ++ m) s.a l k).1)
    rcases (goes_num (least := l) (most := k) m h0 h1 hl).ok hz with q | q
    · rw [q]; exact .inl ⟨rfl, rfl⟩
    · exact .inr q
theorem keep_good {u : TS → TS} (hu : ∀ s, (u s).t = s.t ∧ (u s).a = s.a ∧ (u s).e = s.e) (hm : ∀ s m, u (s.more m) = (u s).more m) : GoodF u := by
  refine ⟨fun s _ => hu s, fun s m he h0 h1 => ?_⟩
  obtain ⟨u1, u2, u3⟩ := hu s
  have hs := size_app s.t m
  rw [hm]
  exact ⟨u1, by omega, by omega, .inl (by omega), fun h => by omega, fun h => by omega, by show (u s).t ++ m = _; rw [u1], by show s.a ≤ (u s).a; omega, by show (u s).a ≤ _; omega, .inl (show (u s).e = 0 by omega), fun h => by omega, fun _ => .inl rfl, fun h => by omega⟩
def setS (k g n : Int) (h : Bool) (s : TS) : TS := { s with ki := k, go := g, n := n, hf := h }
def endS (k g n : Int) (h : Bool) (s : TS) : TS := if s.e = 0 then setS k g n h s else setS 0 0 0 false s
theorem endS_good (k g n : Int) (h : Bool) : GoodF (endS k g n h) := by
  refine keep_good (fun s => ?_) (fun s m => ?_)
  · unfold endS; split <;> exact ⟨rfl, rfl, rfl⟩
  · unfold endS
    by_cases q : s.e = 0
    · rw [if_pos q, if_pos (show (s.more m).e = 0 from q)]; rfl
    · rw [if_neg q, if_neg (show ¬ (s.more m).e = 0 from q)]; rfl
def halfS (k g n : Int) (s : TS) : TS := if n = 0 then endS k g n true (wordR dotFive s) else if s.e = 0 ∧ s.a < s.t.size ∧ bt s.t s.a.toNat = 46 then endS k g n true (wordR dotFive s) else endS k g n false s
theorem half_good (k g n : Int) : GoodF (halfS k g n) := by
  have W : GoodF (fun s => endS k g n true (wordR dotFive s)) := (word_good (w := dotFive) (by decide)).toGoodF.comp (endS_good k g n true)
  have E := endS_good k g n false
  refine ⟨fun s hs => ?_, fun s m he h0 h1 => ?_⟩
  · unfold halfS
    split
    · exact W.off s hs
    · rw [if_neg (fun h => hs h.1)]; exact E.off s hs
  · unfold halfS
    by_cases c : n = 0
    · rw [if_pos c, if_pos c]; exact W.goes s m he h0 h1
    · rw [if_neg c, if_neg c]
      have hs := size_app s.t m
      by_cases c2 : s.e = 0 ∧ s.a < s.t.size ∧ bt s.t s.a.toNat = 46
      · rw [if_pos c2, if_pos (show (s.more m).e = 0 ∧ (s.more m).a < (s.more m).t.size ∧ bt (s.more m).t (s.more m).a.toNat = 46 from ⟨he, by show s.a < ((s.t ++ m).size : Int); omega, by show bt (s.t ++ m) s.a.toNat = 46; rw [bt_app _ _ (by omega)]; exact c2.2.2⟩)]
        exact W.goes s m he h0 h1
      · rw [if_neg c2]
        rcases (show s.a < s.t.size ∨ s.a = s.t.size by omega) with q | q
        · rw [if_neg (show ¬ ((s.more m).e = 0 ∧ (s.more m).a < (s.more m).t.size ∧ bt (s.more m).t (s.more m).a.toNat = 46) from fun h => c2 ⟨he, q, by have h2 := h.2.2; rw [show bt (s.more m).t (s.more m).a.toNat = bt (s.t ++ m) s.a.toNat from rfl, bt_app _ _ (by omega)] at h2; exact h2⟩)]
          exact E.goes s m he h0 h1
        · have X : endS k g n false s = setS k g n false s := by unfold endS; rw [if_pos he]
          rw [X]
          have Y : ∀ y : TS, y.t = s.t ++ m → s.a ≤ y.a → y.a ≤ (s.t ++ m).size → (y.e = 0 ∨ y.e = 1 ∨ y.e = 2) → GT m s (setS k g n false s) y := fun y y1 y2 y3 y4 =>
            ⟨rfl, Int.le_refl _, h1, .inl he, fun h => by rw [show (setS k g n false s).e = s.e from rfl] at h; omega, fun h => by rw [show (setS k g n false s).e = s.e from rfl] at h; omega, y1, y2, y3, y4, fun h => by rw [show (setS k g n false s).e = s.e from rfl] at h; omega, fun _ => .inr ⟨q, by omega⟩, fun h => by rw [show (setS k g n false s).e = s.e from rfl] at h; omega⟩
          split
          · have b := W.goes s m he h0 h1
            exact Y _ b.t' b.ge' b.le' b.ee'
          · have b := E.goes s m he h0 h1
            exact Y _ b.t' b.ge' b.le' b.ee'
def kindS (i : Int) : Int × Int × Int × Bool := nt stipsL i.toNat (0, 0, 0, false)
def behS (i N : Int) (s : TS) : TS := if (kindS i).1 = 5 then halfS (kindS i).1 (kindS i).2.1 N s else endS (kindS i).1 (kindS i).2.1 N (kindS i).2.2.2 s
theorem beh_good (i N : Int) : GoodF (behS i N) := by
  unfold behS
  by_cases h : (kindS i).1 = 5
  · simp only [if_pos h]; exact half_good _ _ _
  · simp only [if_neg h]; exact endS_good _ _ _ _
def leastS (i : Int) : Int := if (kindS i).1 = 5 then 0 else 1
def numS (i : Int) (s : TS) : TS := behS i (numR (leastS i) 64 s).1 (numR (leastS i) 64 s).2
theorem numS_good (i : Int) : GoodF (numS i) := num_dep (l := leastS i) (k := 64) (by unfold leastS; split <;> omega) (fun n => beh_good i n)
def stipG (s : TS) : TS := numS (oneR wordsL s).1 (oneR wordsL s).2
theorem stipG_good : GoodF stipG := one_dep words_apart numS_good
theorem behS_off {i N : Int} {s : TS} (hs : s.e ≠ 0) : behS i N s = setS 0 0 0 false s := by
  unfold behS halfS
  have e : ∀ k g n h, endS k g n h s = setS 0 0 0 false s := fun k g n h => by unfold endS; rw [if_neg hs]
  have w : wordR dotFive s = s := by unfold wordR; rw [if_neg hs]
  rw [w, e, e, e]
  (repeat' split) <;> rfl
theorem stipS_is {s : TS} (he : s.e = 0) (h0 : 0 ≤ s.a) (h1 : s.a ≤ s.t.size) : stipS s = stipG s := by
  have A := oneA_bd (t := s.t) h0 h1 words_apart
  unfold stipS stipG oneR stipZ
  rw [if_pos he, if_pos he]
  generalize oneZ s.t s.a wordsL = x at A ⊢
  unfold stipF numS numR
  unfold TS.at_
  dsimp only
  by_cases c1 : x.2.2 = 0
  · rw [if_pos c1, if_pos c1]
    have B := fun (l : Int) (hl : 0 ≤ l ∧ l ≤ 64 ∧ (64 : Int) ≤ 1000000) => numA_bd (t := s.t) (a := x.1) (least := l) (most := 64) (by omega) (by omega) hl
    unfold behS leastS halfS endS wordR TS.at_
    rw [show nt stipsL x.2.1.toNat (0, 0, 0, false) = kindS x.2.1 from rfl]
    generalize kindS x.2.1 = q
    by_cases c2 : q.1 = 5
    · rw [if_pos c2, if_pos c2, if_pos c2]
      dsimp only
      have b := B 0 (by omega)
      generalize numZ s.t x.1 0 64 = m at b ⊢
      by_cases c3 : m.2.2 = 0
      · rw [if_pos c3, if_pos c3]
        by_cases c4 : m.2.1 = 0
        · rw [if_pos c4, if_pos c4]
          generalize wordZ s.t m.1 dotFive = z
          by_cases c5 : z.2.2 = 0
          · rw [if_pos c5, if_pos c5]; unfold setS; dsimp only; rw [c5]
          · rw [if_neg c5, if_neg c5]; rfl
        · rw [if_neg c4, if_neg c4]
          by_cases c6 : m.1 < s.t.size ∧ bt s.t m.1.toNat = 46
          · rw [if_pos c6, if_pos (show m.2.2 = 0 ∧ m.1 < (s.t.size : Int) ∧ bt s.t m.1.toNat = 46 from ⟨c3, c6⟩)]
            generalize wordZ s.t m.1 dotFive = z
            by_cases c5 : z.2.2 = 0
            · rw [if_pos c5, if_pos c5]; unfold setS; dsimp only; rw [c5]
            · rw [if_neg c5, if_neg c5]; rfl
          · rw [if_neg c6, if_neg (show ¬ (m.2.2 = 0 ∧ m.1 < (s.t.size : Int) ∧ bt s.t m.1.toNat = 46) from fun h => c6 h.2), if_pos c3]; unfold setS; dsimp only; rw [c3]
      · rw [if_neg c3]
        have e : ∀ (y : TS), y.e = m.2.2 → ¬ y.e = 0 := fun y h => by omega
        simp only [if_neg c3]
        (repeat' split) <;> first | rfl | (exfalso; omega)
    · rw [if_neg c2, if_neg c2, if_neg c2]
      dsimp only
      have b := B 1 (by omega)
      generalize numZ s.t x.1 1 64 = m at b ⊢
      by_cases c3 : m.2.2 = 0
      · rw [if_pos c3, if_pos c3]; unfold setS; dsimp only; rw [c3]
      · rw [if_neg c3, if_neg c3]; rfl
  · rw [if_neg c1, if_neg c1, behS_off (show ¬ x.2.2 = 0 from c1)]; rfl
theorem stipS_good : GoodF stipS := by
  refine ⟨fun s hs => ?_, fun s m he h0 h1 => ?_⟩
  · unfold stipS; rw [if_neg hs]; exact ⟨rfl, rfl, rfl⟩
  · have hs := size_app s.t m
    rw [stipS_is he h0 h1, stipS_is (s := s.more m) he h0 (by show s.a ≤ ((s.t ++ m).size : Int); omega)]
    exact stipG_good.goes s m he h0 h1
theorem stipR_good : GoodF stipR := ((word_good (w := stipB) (by decide)).toGoodF.comp stipS_good).comp (word_good (w := nlB) (by decide)).toGoodF
theorem diag_good : GoodF diagR := (word_good (w := beginB) (by decide)).toGoodF.comp (one_dep diag_apart (g := fun n s => if n = 0 then boardR rdZ s else boardR rlZ s) (fun n => by
  by_cases h : n = 0
  · simp only [if_pos h]; exact board_good rdZ_good
  · simp only [if_neg h]; exact board_good rlZ_good))
end Go.Proofs.Ytaipghemddjecaa
