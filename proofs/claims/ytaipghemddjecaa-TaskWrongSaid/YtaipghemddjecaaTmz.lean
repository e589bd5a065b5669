import Derived.Test.YtaipghemddjecaaTrz
namespace Go.Proofs.Ytaipghemddjecaa
open Go.RowKit
set_option linter.unusedVariables false
set_option linter.unusedSimpArgs false
def TS.more (s : TS) (m : ByteArray) : TS := { s with t := s.t ++ m }
structure GT (m : ByteArray) (s x y : TS) : Prop where
  t : x.t = s.t
  ge : s.a ≤ x.a
  le : x.a ≤ s.t.size
  ee : x.e = 0 ∨ x.e = 1 ∨ x.e = 2
  one : x.e = 1 → x.a = s.t.size
  two : x.e = 2 → x.a < s.t.size
  t' : y.t = s.t ++ m
  ge' : s.a ≤ y.a
  le' : y.a ≤ (s.t ++ m).size
  ee' : y.e = 0 ∨ y.e = 1 ∨ y.e = 2
  app : x.e = 2 → y.a = x.a ∧ y.e = 2
  ok : x.e = 0 → y = x.more m ∨ (x.a = s.t.size ∧ (s.t.size : Int) ≤ y.a)
  late : x.e = 1 → (s.t.size : Int) ≤ y.a
structure GoodF (f : TS → TS) : Prop where
  off : ∀ s, s.e ≠ 0 → (f s).t = s.t ∧ (f s).a = s.a ∧ (f s).e = s.e
  goes : ∀ s m, s.e = 0 → 0 ≤ s.a → s.a ≤ s.t.size → GT m s (f s) (f (s.more m))
structure GoodS (f : TS → TS) : Prop extends GoodF f where
  strict : ∀ s m, s.e = 0 → 0 ≤ s.a → s.a ≤ s.t.size → (f s).e = 0 → f (s.more m) = (f s).more m
theorem GoodF.bd {f : TS → TS} (h : GoodF f) {s : TS} (he : s.e = 0) (h0 : 0 ≤ s.a) (h1 : s.a ≤ s.t.size) : (f s).t = s.t ∧ s.a ≤ (f s).a ∧ (f s).a ≤ s.t.size ∧ ((f s).e = 0 ∨ (f s).e = 1 ∨ (f s).e = 2) ∧ ((f s).e = 1 → (f s).a = s.t.size) ∧ ((f s).e = 2 → (f s).a < s.t.size) := by
  have g := h.goes s ⟨#[]⟩ he h0 h1
  exact ⟨g.t, g.ge, g.le, g.ee, g.one, g.two⟩
theorem more_size (s : TS) (m : ByteArray) : (s.more m).t.size = s.t.size + m.size := size_app s.t m
theorem GoodF.comp {f g : TS → TS} (hf : GoodF f) (hg : GoodF g) : GoodF (fun s => g (f s)) := by
  refine ⟨fun s hs => ?_, fun s m he h0 h1 => ?_⟩
  · obtain ⟨a1, a2, a3⟩ := hf.off s hs
    obtain ⟨b1, b2, b3⟩ := hg.off (f s) (by rw [a3]; exact hs)
    exact ⟨b1.trans a1, b2.trans a2, b3.trans a3⟩
  · have G := hf.goes s m he h0 h1
    have hs := size_app s.t m
    show GT m s (g (f s)) (g (f (s.more m)))
    generalize f s = X at G ⊢
    generalize f (s.more m) = Y at G ⊢
    have hYa : (0 : Int) ≤ Y.a := by have := G.ge'; omega
    have hXa : (0 : Int) ≤ X.a := by have := G.ge; omega
    have le1 := G.le; have ge1 := G.ge
    -- what becomes of Y
    have hY : (g Y).t = s.t ++ m ∧ Y.a ≤ (g Y).a ∧ (g Y).a ≤ (s.t ++ m).size ∧ ((g Y).e = 0 ∨ (g Y).e = 1 ∨ (g Y).e = 2) := by
      by_cases hy : Y.e = 0
      · have b := hg.bd hy hYa (by rw [G.t']; exact G.le')
        rw [G.t'] at b
        exact ⟨b.1, b.2.1, b.2.2.1, b.2.2.2.1⟩
      · obtain ⟨b1, b2, b3⟩ := hg.off Y hy
        exact ⟨b1.trans G.t', by omega, by rw [b2]; exact G.le', by rw [b3]; exact G.ee'⟩
    have geY := G.ge'
    by_cases hx : X.e = 0
    · have bx := hg.bd hx hXa (by rw [G.t]; exact G.le)
      rw [G.t] at bx
      rcases G.ok hx with hyx | ⟨hxa, hlate⟩
      · subst hyx
        have K := hg.goes X m hx hXa (by rw [G.t]; exact G.le)
        have kok := K.ok; have klate := K.late
        rw [G.t] at kok klate
        exact ⟨bx.1, by omega, bx.2.2.1, bx.2.2.2.1, bx.2.2.2.2.1, bx.2.2.2.2.2, hY.1, by omega, hY.2.2.1, hY.2.2.2, K.app, kok, klate⟩
      · exact ⟨bx.1, by omega, bx.2.2.1, bx.2.2.2.1, bx.2.2.2.2.1, bx.2.2.2.2.2, hY.1, by omega, hY.2.2.1, hY.2.2.2,
          fun h => by have := bx.2.2.2.2.2 h; omega, fun h => .inr ⟨by omega, by omega⟩, fun h => by omega⟩
    · obtain ⟨b1, b2, b3⟩ := hg.off X hx
      refine ⟨b1.trans G.t, by omega, by omega, by rw [b3]; exact G.ee, fun h => by rw [b2]; exact G.one (b3 ▸ h), fun h => by rw [b2]; exact G.two (b3 ▸ h), hY.1, by omega, hY.2.2.1, hY.2.2.2, fun h => ?_, fun h => absurd (b3 ▸ h) hx, fun h => ?_⟩
      · obtain ⟨c1, c2⟩ := G.app (b3 ▸ h)
        obtain ⟨d1, d2, d3⟩ := hg.off Y (by omega)
        exact ⟨by omega, by omega⟩
      · have := G.late (b3 ▸ h); omega
theorem gt_step {s : TS} {m : ByteArray} {z z' : Int × Int × Int} {same : Prop} (u : TS → TS) (hu : ∀ s, (u s).t = s.t ∧ (u s).a = s.a ∧ (u s).e = s.e) (h : Goes s.t m s.a z.1 z.2.2 z'.1 z'.2.2 same)
    {x y : TS} (hx : x.t = s.t ∧ x.a = z.1 ∧ x.e = z.2.2) (hy : y.t = s.t ++ m ∧ y.a = z'.1 ∧ y.e = z'.2.2) (hsame : same → y = x.more m) : GT m s x y := by
  obtain ⟨x1, x2, x3⟩ := hx
  obtain ⟨y1, y2, y3⟩ := hy
  refine ⟨x1, by rw [x2]; exact h.ge, by rw [x2]; exact h.le, by rw [x3]; exact h.ee, by rw [x2, x3]; exact h.one, by rw [x2, x3]; exact h.two, y1, by rw [y2]; exact h.ge', by rw [y2]; exact h.le', by rw [y3]; exact h.ee', fun e => ?_, fun e => ?_, fun e => ?_⟩
  · have := hsame (h.app (x3 ▸ e))
    rw [this]
    exact ⟨rfl, e⟩
  · rcases h.ok (x3 ▸ e) with q | ⟨q1, q2⟩
    · exact .inl (hsame q)
    · exact .inr ⟨by omega, by omega⟩
  · rw [y2]; exact h.late (x3 ▸ e)
theorem word_good {w : ByteArray} (hw : 0 < w.size) : GoodS (wordR w) := by
  refine ⟨⟨fun s hs => ?_, fun s m he h0 h1 => ?_⟩, fun s m he h0 h1 hz => ?_⟩
  · unfold wordR; rw [if_neg hs]; exact ⟨rfl, rfl, rfl⟩
  · unfold wordR
    rw [if_pos he, if_pos (show (s.more m).e = 0 from he)]
    refine gt_step id (fun _ => ⟨rfl, rfl, rfl⟩) (goes_word (u := w) m h0 h1 hw) ⟨rfl, rfl, rfl⟩ ⟨rfl, rfl, rfl⟩ (fun h => ?_)
    show TS.at_ (s.more m) (wordZ (s.t ++ m) s.a w) = _
    rw [h]; rfl
  · unfold wordR at hz ⊢
    rw [if_pos he] at hz
    rw [if_pos he, if_pos (show (s.more m).e = 0 from he)]
    show TS.at_ (s.more m) (wordZ (s.t ++ m) s.a w) = _
    rw [word_app m (.inr hz)]; rfl
theorem one_good {ws : List ByteArray} (hw : apartB ws = true) : GoodS (fun s => (oneR ws s).2) := by
  refine ⟨⟨fun s hs => ?_, fun s m he h0 h1 => ?_⟩, fun s m he h0 h1 hz => ?_⟩
  · unfold oneR; rw [if_neg hs]; exact ⟨rfl, rfl, rfl⟩
  · unfold oneR
    rw [if_pos he, if_pos (show (s.more m).e = 0 from he)]
    refine gt_step id (fun _ => ⟨rfl, rfl, rfl⟩) (goes_one (ss := ws) m h0 h1 hw) ⟨rfl, rfl, rfl⟩ ⟨rfl, rfl, rfl⟩ (fun h => ?_)
    show TS.at_ (s.more m) (oneZ (s.t ++ m) s.a ws) = _
    rw [h]; rfl
  · unfold oneR at hz ⊢
    rw [if_pos he] at hz
    rw [if_pos he, if_pos (show (s.more m).e = 0 from he)]
    show TS.at_ (s.more m) (oneZ (s.t ++ m) s.a ws) = _
    rw [oneA_app m h0 h1 hw (.inr hz)]; rfl
theorem one_same {ws : List ByteArray} (hw : apartB ws = true) {s : TS} (m : ByteArray) (he : s.e = 0) (h0 : 0 ≤ s.a) (h1 : s.a ≤ s.t.size) (hz : (oneR ws s).2.e = 0 ∨ (oneR ws s).2.e = 2) : oneR ws (s.more m) = ((oneR ws s).1, (oneR ws s).2.more m) := by
  unfold oneR at hz ⊢
  rw [if_pos he] at hz
  rw [if_pos he, if_pos (show (s.more m).e = 0 from he)]
  show ((oneZ (s.t ++ m) s.a ws).2.1, TS.at_ (s.more m) (oneZ (s.t ++ m) s.a ws)) = _
  rw [oneA_app m h0 h1 hw hz.symm]; rfl
theorem side_good : GoodS sideR := by
  refine ⟨⟨fun s hs => ?_, fun s m he h0 h1 => ?_⟩, fun s m he h0 h1 hz => ?_⟩
  · unfold sideR oneR; rw [if_neg hs]; exact ⟨rfl, rfl, rfl⟩
  · unfold sideR oneR
    rw [if_pos he, if_pos (show (s.more m).e = 0 from he)]
    refine gt_step id (fun _ => ⟨rfl, rfl, rfl⟩) (goes_one (ss := sideW) m h0 h1 side_apart) ⟨rfl, rfl, rfl⟩ ⟨rfl, rfl, rfl⟩ (fun h => ?_)
    show ({ TS.at_ (s.more m) (oneZ (s.t ++ m) s.a sideW) with sd := (oneZ (s.t ++ m) s.a sideW).2.1 } : TS) = _
    rw [h]; rfl
  · have hz' : (oneR sideW s).2.e = 0 := hz
    unfold sideR
    rw [one_same side_apart m he h0 h1 (.inl hz')]; rfl
theorem num_good {l k : Int} (hl : 0 ≤ l ∧ l ≤ k ∧ k ≤ 1000000) (u : Int → TS → TS) (hu : ∀ n s, (u n s).t = s.t ∧ (u n s).a = s.a ∧ (u n s).e = s.e) (hm : ∀ n s m, u n (s.more m) = (u n s).more m) : GoodF (fun s => u (numR l k s).1 (numR l k s).2) := by
  refine ⟨fun s hs => ?_, fun s m he h0 h1 => ?_⟩
  · unfold numR; rw [if_neg hs]; exact hu _ _
  · unfold numR
    rw [if_pos he, if_pos (show (s.more m).e = 0 from he)]
    refine gt_step id (fun _ => ⟨rfl, rfl, rfl⟩) (goes_num (least := l) (most := k) m h0 h1 hl) (hu _ _) (hu _ _) (fun h => ?_)
    show u (numZ (s.t ++ m) s.a l k).2.1 (TS.at_ (s.more m) (numZ (s.t ++ m) s.a l k)) = _
    rw [h]
    exact hm _ (s.at_ (numZ s.t s.a l k)) m
theorem max_good : GoodF maxR := (word_good (w := spB) (by decide)).toGoodF.comp (num_good (l := 1) (k := 1000) (by omega) (fun n s => { s with mx := n }) (fun _ _ => ⟨rfl, rfl, rfl⟩) (fun _ _ _ => rfl))
theorem retro_good : GoodF retroR := (word_good (w := spB) (by decide)).toGoodF.comp (num_good (l := 0) (k := 4) (by omega) (fun n s => { s with rt := n }) (fun _ _ => ⟨rfl, rfl, rfl⟩) (fun _ _ _ => rfl))
theorem sqR_good : GoodF sqR := by
  refine ⟨fun s hs => ?_, fun s m he h0 h1 => ?_⟩
  · unfold sqR; rw [if_neg hs]; exact ⟨rfl, rfl, rfl⟩
  · unfold sqR
    rw [if_pos he, if_pos (show (s.more m).e = 0 from he)]
    obtain ⟨n, hn⟩ : ∃ n : Nat, s.a = n := ⟨s.a.toNat, by omega⟩
    have G := goes_sq (t := s.t) (n := n) m (by omega)
    rw [← hn] at G
    refine gt_step (z := sqZ s.t s.a.toNat) (z' := sqZ (s.t ++ m) s.a.toNat) id (fun _ => ⟨rfl, rfl, rfl⟩) (by rw [hn, Int.toNat_natCast] at *; exact G) ⟨rfl, rfl, rfl⟩ ⟨rfl, rfl, rfl⟩ (fun h => ?_)
    show ({ TS.at_ (s.more m) (sqZ (s.t ++ m) s.a.toNat) with ep := (sqZ (s.t ++ m) s.a.toNat).2.1 } : TS) = _
    rw [hn, Int.toNat_natCast] at *
    rw [h]; rfl
theorem ep_good : GoodF (fun s => sqR (wordR spB s)) := (word_good (w := spB) (by decide)).toGoodF.comp sqR_good
theorem set_good : GoodS (fun s => { s with se := true }) :=
  ⟨⟨fun s _ => ⟨rfl, rfl, rfl⟩, fun s m he h0 h1 => ⟨rfl, Int.le_refl _, h1, .inl he, fun h => by dsimp only at h; omega, fun h => by dsimp only at h; omega, rfl, Int.le_refl _, by have := size_app s.t m; show s.a ≤ _; omega, .inl he, fun h => by dsimp only at h; omega, fun _ => .inl rfl, fun h => by dsimp only at h; omega⟩⟩, fun _ _ _ _ _ _ => rfl⟩
theorem try_good : GoodS (fun s => { s with tr := true }) :=
  ⟨⟨fun s _ => ⟨rfl, rfl, rfl⟩, fun s m he h0 h1 => ⟨rfl, Int.le_refl _, h1, .inl he, fun h => by dsimp only at h; omega, fun h => by dsimp only at h; omega, rfl, Int.le_refl _, by have := size_app s.t m; show s.a ≤ _; omega, .inl he, fun h => by dsimp only at h; omega, fun _ => .inl rfl, fun h => by dsimp only at h; omega⟩⟩, fun _ _ _ _ _ _ => rfl⟩
end Go.Proofs.Ytaipghemddjecaa
