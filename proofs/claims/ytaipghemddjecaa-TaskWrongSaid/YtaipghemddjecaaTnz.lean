import Derived.Test.YtaipghemddjecaaTmz
namespace Go.Proofs.Ytaipghemddjecaa
open Go.RowKit
set_option linter.unusedVariables false
set_option linter.unusedSimpArgs false
theorem gt_self {s : TS} (m : ByteArray) (he : s.e = 0) (h1 : s.a ≤ s.t.size) : GT m s s (s.more m) :=
  ⟨rfl, Int.le_refl _, h1, .inl he, fun h => by omega, fun h => by omega, rfl, Int.le_refl _, by have := size_app s.t m; show s.a ≤ _; omega, .inl he, fun h => by omega, fun _ => .inl rfl, fun h => by omega⟩
theorem ca_end {t : ByteArray} {a : Int} {fr : Nat} {any : Bool} (hc : CaOk fr any) (h0 : 0 ≤ a) (h1 : a ≤ t.size) (h : (oneZ t a (caW fr any)).2.2 = 1) : a = t.size := by
  rcases oneA_cases h0 h1 hc.apart with ⟨k, hk, hh, hz, e⟩ | ⟨hno, e⟩
  · rw [e] at h; simp at h
  · rw [e] at h
    dsimp only at h
    have hm := mostN_le (t := t) (a := a) (caW fr any) h1 (caW fr any).length
    unfold endE at h
    split at h
    · rename_i q
      rcases (show 0 < mostN t a (caW fr any) (caW fr any).length ∨ mostN t a (caW fr any) (caW fr any).length = 0 by omega) with p | p
      · obtain ⟨j, hj, ej⟩ := mostA_at _ p
        have h2 := fitN_le (t := t) (a := a) (wd (caW fr any) j) h1
        have h3 := caW_one hc.le4 hj
        exact absurd (show fitN t a (wd (caW fr any) j) = (wd (caW fr any) j).size by omega) (hno j hj)
      · omega
    · omega
theorem ca_n {t : ByteArray} {a : Int} {fr : Nat} {any : Bool} (hc : CaOk fr any) (h0 : 0 ≤ a) (h1 : a ≤ t.size) (h : (oneZ t a (caW fr any)).2.2 = 0) (hn : ¬ (oneZ t a (caW fr any)).2.1 = 4 - (fr : Int)) : CaOk (fr + (oneZ t a (caW fr any)).2.1.toNat + 1) true := by
  have B := (oneA_bd h0 h1 hc.apart).2.2.2.1 h
  have hl := caW_len fr any
  have hf := hc.le4
  have : (if any = true then 1 else 0) ≤ 1 := by split <;> omega
  exact ⟨by omega, fun h => by cases h⟩
theorem ca_bd : ∀ (d fr : Nat) (any : Bool) (s : TS), CaOk fr any → s.e = 0 → 0 ≤ s.a → s.a ≤ s.t.size →
    (caF d fr any s).t = s.t ∧ s.a ≤ (caF d fr any s).a ∧ (caF d fr any s).a ≤ s.t.size ∧ ((caF d fr any s).e = 0 ∨ (caF d fr any s).e = 1 ∨ (caF d fr any s).e = 2) ∧ ((caF d fr any s).e = 1 → (caF d fr any s).a = s.t.size) ∧ ((caF d fr any s).e = 2 → (caF d fr any s).a < s.t.size)
  | 0, fr, any, s, hc, he, h0, h1 => by
    unfold caF
    exact ⟨rfl, Int.le_refl _, h1, .inl he, fun h => by omega, fun h => by omega⟩
  | d + 1, fr, any, s, hc, he, h0, h1 => by
    have B := oneA_bd h0 h1 hc.apart
    have N := ca_n hc h0 h1
    unfold caF
    generalize oneZ s.t s.a (caW fr any) = z at B N ⊢
    by_cases c0 : z.2.2 = 0
    · rw [if_pos c0]
      have b := B.2.2.2.1 c0
      by_cases c1 : z.2.1 = 4 - (fr : Int)
      · rw [if_pos c1]
        exact ⟨rfl, by dsimp only; omega, by dsimp only; omega, .inl rfl, fun h => by dsimp only at h; omega, fun h => by dsimp only at h; omega⟩
      · rw [if_neg c1]
        have K := ca_bd d (fr + z.2.1.toNat + 1) true { s with a := z.1, e := 0, ca := Go.bits .or .i64 s.ca (2 ^ (fr + z.2.1.toNat)) } (N c0 c1) rfl (by dsimp only; omega) (by dsimp only; omega)
        exact ⟨K.1, by have := K.2.1; dsimp only at this; omega, K.2.2.1, K.2.2.2.1, K.2.2.2.2.1, K.2.2.2.2.2⟩
    · rw [if_neg c0]
      exact ⟨rfl, B.1, B.2.1, B.2.2.1, B.2.2.2.2.1, B.2.2.2.2.2⟩
theorem ca_gt (m : ByteArray) : ∀ (d fr : Nat) (any : Bool) (s : TS), CaOk fr any → s.e = 0 → 0 ≤ s.a → s.a ≤ s.t.size → GT m s (caF d fr any s) (caF d fr any (s.more m))
  | 0, fr, any, s, hc, he, h0, h1 => by
    unfold caF
    exact gt_self m he h1
  | d + 1, fr, any, s, hc, he, h0, h1 => by
    have hs := size_app s.t m
    have B := oneA_bd h0 h1 hc.apart
    have N := ca_n hc h0 h1
    have A := oneA_app (t := s.t) m h0 h1 hc.apart
    have E := ca_end (t := s.t) hc h0 h1
    have bx := ca_bd (d + 1) fr any s hc he h0 h1
    have bY := ca_bd (d + 1) fr any (s.more m) hc he h0 (by rw [more_size]; show s.a ≤ _; omega)
    refine ⟨bx.1, bx.2.1, bx.2.2.1, bx.2.2.2.1, bx.2.2.2.2.1, bx.2.2.2.2.2, bY.1, bY.2.1, bY.2.2.1, bY.2.2.2.1, ?_, ?_, ?_⟩
    · intro h
      rw [caF] at h ⊢
      rw [caF]
      rw [show oneZ (s.more m).t (s.more m).a (caW fr any) = oneZ (s.t ++ m) s.a (caW fr any) from rfl]
      by_cases c0 : (oneZ s.t s.a (caW fr any)).2.2 = 0
      · rw [A (.inr c0), if_pos c0]
        rw [if_pos c0] at h ⊢
        have b := B.2.2.2.1 c0
        by_cases c1 : (oneZ s.t s.a (caW fr any)).2.1 = 4 - (fr : Int)
        · rw [if_pos c1] at h; dsimp only at h; omega
        · rw [if_neg c1] at h ⊢
          rw [if_neg c1]
          exact (ca_gt m d (fr + (oneZ s.t s.a (caW fr any)).2.1.toNat + 1) true { s with a := (oneZ s.t s.a (caW fr any)).1, e := 0, ca := Go.bits .or .i64 s.ca (2 ^ (fr + (oneZ s.t s.a (caW fr any)).2.1.toNat)) } (N c0 c1) rfl (by dsimp only; omega) (by dsimp only; omega)).app h
      · rw [if_neg c0] at h ⊢
        have h2 : (oneZ s.t s.a (caW fr any)).2.2 = 2 := h
        rw [A (.inl h2), if_neg c0]
        exact ⟨rfl, h2⟩
    · intro h
      rw [caF] at h ⊢
      rw [caF]
      rw [show oneZ (s.more m).t (s.more m).a (caW fr any) = oneZ (s.t ++ m) s.a (caW fr any) from rfl]
      by_cases c0 : (oneZ s.t s.a (caW fr any)).2.2 = 0
      · rw [A (.inr c0), if_pos c0]
        rw [if_pos c0] at h ⊢
        have b := B.2.2.2.1 c0
        by_cases c1 : (oneZ s.t s.a (caW fr any)).2.1 = 4 - (fr : Int)
        · rw [if_pos c1, if_pos c1]; exact .inl rfl
        · rw [if_neg c1] at h ⊢
          rw [if_neg c1]
          exact (ca_gt m d (fr + (oneZ s.t s.a (caW fr any)).2.1.toNat + 1) true { s with a := (oneZ s.t s.a (caW fr any)).1, e := 0, ca := Go.bits .or .i64 s.ca (2 ^ (fr + (oneZ s.t s.a (caW fr any)).2.1.toNat)) } (N c0 c1) rfl (by dsimp only; omega) (by dsimp only; omega)).ok h
      · rw [if_neg c0] at h
        exact absurd h c0
    · intro h
      rw [caF] at h
      by_cases c0 : (oneZ s.t s.a (caW fr any)).2.2 = 0
      · rw [if_pos c0] at h
        rw [caF]
        rw [show oneZ (s.more m).t (s.more m).a (caW fr any) = oneZ (s.t ++ m) s.a (caW fr any) from rfl, A (.inr c0), if_pos c0]
        have b := B.2.2.2.1 c0
        by_cases c1 : (oneZ s.t s.a (caW fr any)).2.1 = 4 - (fr : Int)
        · rw [if_pos c1] at h; dsimp only at h; omega
        · rw [if_neg c1] at h ⊢
          exact (ca_gt m d (fr + (oneZ s.t s.a (caW fr any)).2.1.toNat + 1) true { s with a := (oneZ s.t s.a (caW fr any)).1, e := 0, ca := Go.bits .or .i64 s.ca (2 ^ (fr + (oneZ s.t s.a (caW fr any)).2.1.toNat)) } (N c0 c1) rfl (by dsimp only; omega) (by dsimp only; omega)).late h
      · rw [if_neg c0] at h
        have := E h
        have := bY.2.1
        have h9 : (s.more m).a = s.a := rfl
        omega
theorem castle_good : GoodF castleR := by
  refine ⟨fun s hs => ?_, fun s m he h0 h1 => ?_⟩
  · unfold castleR; rw [if_neg hs]; exact ⟨rfl, rfl, rfl⟩
  · unfold castleR
    rw [if_pos he, if_pos (show (s.more m).e = 0 from he)]
    exact ca_gt m 5 0 false s ⟨by omega, fun _ => rfl⟩ he h0 h1
theorem opcastle_good : GoodF (fun s => castleR (wordR spB s)) := (word_good (w := spB) (by decide)).toGoodF.comp castle_good
theorem ix_app : ∀ (l m : List UInt8) (c : UInt8), (0 ≤ Lib.indexByte l c → Lib.indexByte (l ++ m) c = Lib.indexByte l c) ∧ (Lib.indexByte l c < 0 → Lib.indexByte (l ++ m) c < 0 ∨ (l.length : Int) ≤ Lib.indexByte (l ++ m) c)
  | [], m, c => by
    have := ix_bd m c
    simp only [List.nil_append, Lib.indexByte, List.length_nil]
    exact ⟨fun h => by omega, fun _ => by omega⟩
  | x :: l, m, c => by
    obtain ⟨h1, h2⟩ := ix_app l m c
    have b := ix_bd l c
    have b2 := ix_bd (l ++ m) c
    simp only [List.cons_append, Lib.indexByte, List.length_cons]
    by_cases e : (x == c) = true
    · rw [if_pos e, if_pos e]; exact ⟨fun _ => rfl, fun h => by omega⟩
    · rw [if_neg e, if_neg e]
      generalize Lib.indexByte l c = p at h1 h2 b ⊢
      generalize Lib.indexByte (l ++ m) c = q at h1 h2 b2 ⊢
      by_cases hp : p = -1
      · have hq := h2 (by omega)
        rw [if_pos (by simpa using hp)]
        refine ⟨fun h => by omega, fun _ => ?_⟩
        by_cases hq1 : q = -1
        · rw [if_pos (by simpa using hq1)]; exact .inl (by omega)
        · rw [if_neg (by simpa using hq1)]; exact .inr (by omega)
      · have hq := h1 (by omega)
        rw [if_neg (by simpa using hp), hq, if_neg (by simpa using hp)]
        exact ⟨fun _ => rfl, fun h => by omega⟩
theorem lf_app {t m : ByteArray} {a : Int} (h0 : 0 ≤ a) (h1 : a ≤ t.size) : (0 ≤ lfZ t a → lfZ (t ++ m) a = lfZ t a) ∧ (lfZ t a < 0 → lfZ (t ++ m) a < 0 ∨ (t.size : Int) ≤ a + lfZ (t ++ m) a) := by
  have e : (t ++ m).data.toList.drop a.toNat = t.data.toList.drop a.toNat ++ m.data.toList := by
    rw [ByteArray.data_append, Array.toList_append, List.drop_append_of_le_length (by simp; omega)]
  have hl : (t.data.toList.drop a.toNat).length = t.size - a.toNat := by simp
  have I := ix_app (t.data.toList.drop a.toNat) m.data.toList 10
  unfold lfZ
  rw [e]
  refine ⟨I.1, fun h => ?_⟩
  have := I.2 h
  omega
theorem ext_in (t m : ByteArray) {i j : Nat} (h : j ≤ t.size) : (t ++ m).extract i j = t.extract i j := by
  apply ByteArray.ext
  apply Array.ext'
  simp only [ByteArray.data_extract, ByteArray.data_append, Array.toList_extract, Array.toList_append, List.extract_eq_take_drop]
  rcases Nat.lt_or_ge t.size i with q | q
  · rw [show j - i = 0 by omega]; simp
  · rw [List.drop_append_of_le_length (by simpa using q), List.take_append_of_le_length (by simp; omega)]
theorem ext_out (t m : ByteArray) {i j : Nat} (hi : i ≤ t.size) (h : t.size ≤ j) : (t ++ m).extract i j = t.extract i t.size ++ m.extract 0 (j - t.size) := by
  apply ByteArray.ext
  apply Array.ext'
  simp only [ByteArray.data_extract, ByteArray.data_append, Array.toList_extract, Array.toList_append, List.extract_eq_take_drop]
  rw [List.drop_append_of_le_length (by simpa using hi), List.take_append]
  have e1 : (List.drop i t.data.toList).length = t.size - i := by simp
  rw [e1, List.take_of_length_le (l := List.drop i t.data.toList) (by rw [e1]; omega), List.take_of_length_le (l := List.drop i t.data.toList) (by rw [e1]; omega)]
  rw [show j - i - (t.size - i) = j - t.size by omega, Nat.sub_zero, List.drop_zero]
theorem line_app {t m : ByteArray} {a : Int} (h0 : 0 ≤ a) (h1 : a ≤ t.size) :
    ((lineZ t a).2.2.2 = 0 ∧ lineZ (t ++ m) a = lineZ t a ∧ (lineZ t a).2.1 = a + (lineZ t a).1.size + 1 ∧ (lineZ t a).2.1 ≤ t.size) ∨
    ((lineZ t a).2.2.2 = 1 ∧ (lineZ t a).2.1 = t.size ∧ a + (lineZ t a).1.size = t.size ∧ (∃ m2, (lineZ (t ++ m) a).1 = (lineZ t a).1 ++ m2) ∧ (t.size : Int) ≤ (lineZ (t ++ m) a).2.1 ∧ ((lineZ (t ++ m) a).2.2.2 = 0 ∨ (lineZ (t ++ m) a).2.2.2 = 1) ∧ (lineZ (t ++ m) a).2.1 ≤ (t ++ m).size) := by
  have hs := size_app t m
  have b := lf_bd h0 h1
  have b' := lf_bd (t := t ++ m) h0 (by omega)
  obtain ⟨A, C⟩ := lf_app (m := m) h0 h1
  unfold lineZ
  by_cases hv : lfZ t a < 0
  · rw [if_pos hv]
    refine .inr ⟨rfl, rfl, by simp; omega, ?_⟩
    by_cases hv2 : lfZ (t ++ m) a < 0
    · rw [if_pos hv2]
      refine ⟨⟨m.extract 0 ((t ++ m).size - t.size), ?_⟩, by dsimp only; omega, .inr rfl, by dsimp only; omega⟩
      exact ext_out t m (by omega) (by omega)
    · rw [if_neg hv2]
      have := C hv
      refine ⟨⟨m.extract 0 ((a + lfZ (t ++ m) a).toNat - t.size), ?_⟩, by dsimp only; omega, .inl rfl, by dsimp only; omega⟩
      exact ext_out t m (by omega) (by omega)
  · rw [if_neg hv]
    refine .inl ⟨rfl, ?_, by simp; omega, by dsimp only; omega⟩
    rw [A (by omega), if_neg hv, ext_in t m (by omega)]
theorem board_good {rd : ByteArray → List Int × Int × Int} (hr : BGood rd) : GoodF (boardR rd) := by
  refine ⟨fun s hs => ?_, fun s m he h0 h1 => ?_⟩
  · unfold boardR; rw [if_neg hs]; exact ⟨rfl, rfl, rfl⟩
  · have hs := size_app s.t m
    have Lsz := line_size h0 h1
    have Lsz' := line_size (t := s.t ++ m) h0 (by omega)
    unfold boardR
    rw [if_pos he, if_pos (show (s.more m).e = 0 from he)]
    rw [show lineZ (s.more m).t (s.more m).a = lineZ (s.t ++ m) s.a from rfl]
    rcases line_app (m := m) h0 h1 with ⟨l1, l2, l3, l4⟩ | ⟨l1, l2, l3, ⟨m2, l4⟩, l5, l6, l7⟩
    · rw [l2]
      have b := hr.bd (lineZ s.t s.a).1
      have g := hr.goes (lineZ s.t s.a).1 ⟨#[]⟩
      generalize rd (lineZ s.t s.a).1 = r at b g ⊢
      by_cases c2 : r.2.2 = 2
      · rw [if_pos c2, if_pos c2]
        have : r.2.1 < (lineZ s.t s.a).1.size := by
          rcases g with g | g
          · exact g.2.1
          · omega
        exact ⟨rfl, by dsimp only; omega, by dsimp only; omega, .inr (.inr rfl), fun h => by dsimp only at h; omega, fun _ => by dsimp only; omega, rfl, by dsimp only [TS.more]; omega, by dsimp only [TS.more]; omega, .inr (.inr rfl), fun _ => ⟨rfl, rfl⟩, fun h => by dsimp only at h; omega, fun h => by dsimp only at h; omega⟩
      · rw [if_neg c2, if_neg c2, if_pos l1, if_pos l1]
        by_cases c0 : r.2.2 = 0
        · rw [if_pos c0, if_pos c0]
          exact ⟨rfl, by dsimp only; omega, by dsimp only; omega, .inl l1, fun h => by dsimp only at h; omega, fun h => by dsimp only at h; omega, rfl, by dsimp only [TS.more]; omega, by dsimp only [TS.more]; omega, .inl l1, fun h => by dsimp only at h; omega, fun _ => .inl rfl, fun h => by dsimp only at h; omega⟩
        · rw [if_neg c0, if_neg c0]
          exact ⟨rfl, by dsimp only; omega, by dsimp only; omega, .inr (.inr rfl), fun h => by dsimp only at h; omega, fun _ => by dsimp only; omega, rfl, by dsimp only [TS.more]; omega, by dsimp only [TS.more]; omega, .inr (.inr rfl), fun _ => ⟨rfl, rfl⟩, fun h => by dsimp only at h; omega, fun h => by dsimp only at h; omega⟩
    · rw [l4] at Lsz' ⊢
      have b := hr.bd (lineZ s.t s.a).1
      have b' := hr.bd ((lineZ s.t s.a).1 ++ m2)
      have g := hr.goes (lineZ s.t s.a).1 m2
      generalize rd (lineZ s.t s.a).1 = r at b g ⊢
      generalize rd ((lineZ s.t s.a).1 ++ m2) = r' at b' g ⊢
      by_cases c2 : r.2.2 = 2
      · have g2 : r.2.1 < (lineZ s.t s.a).1.size ∧ r' = r := by
          rcases g with g | g
          · exact g.2
          · omega
        rw [g2.2, if_pos c2, if_pos c2]
        exact ⟨rfl, by dsimp only; omega, by dsimp only; omega, .inr (.inr rfl), fun h => by dsimp only at h; omega, fun _ => by dsimp only; omega, rfl, by dsimp only [TS.more]; omega, by dsimp only [TS.more]; omega, .inr (.inr rfl), fun _ => ⟨rfl, rfl⟩, fun h => by dsimp only at h; omega, fun h => by dsimp only at h; omega⟩
      · have g2 : ((lineZ s.t s.a).1.size : Int) ≤ r'.2.1 := by
          rcases g with g | g
          · omega
          · exact g.2.2
        rw [if_neg c2, if_neg (show ¬ (lineZ s.t s.a).2.2.2 = 0 by omega)]
        have Y : ∀ y : TS, y.t = s.t ++ m → (s.t.size : Int) ≤ y.a → y.a ≤ (s.t ++ m).size → (y.e = 0 ∨ y.e = 1 ∨ y.e = 2) → GT m s { s with a := (lineZ s.t s.a).2.1, e := (lineZ s.t s.a).2.2.2 } y := fun y y1 y2 y3 y4 =>
          ⟨rfl, by dsimp only; omega, by dsimp only; omega, .inr (.inl l1), fun _ => l2, fun h => by dsimp only at h; omega, y1, by omega, y3, y4, fun h => by dsimp only at h; omega, fun h => by dsimp only at h; omega, fun _ => y2⟩
        have sz := size_app (lineZ s.t s.a).1 m2
        by_cases d2 : r'.2.2 = 2
        · rw [if_pos d2]
          exact Y _ rfl (by dsimp only [TS.more]; omega) (by dsimp only [TS.more]; omega) (.inr (.inr rfl))
        · rw [if_neg d2]
          by_cases d3 : (lineZ (s.t ++ m) s.a).2.2.2 = 0
          · rw [if_pos d3]
            by_cases d0 : r'.2.2 = 0
            · rw [if_pos d0]
              exact Y _ rfl l5 l7 (.inl d3)
            · rw [if_neg d0]
              exact Y _ rfl (by dsimp only [TS.more]; omega) (by dsimp only [TS.more]; omega) (.inr (.inr rfl))
          · rw [if_neg d3]
            exact Y _ rfl l5 l7 (by dsimp only; omega)
end Go.Proofs.Ytaipghemddjecaa
