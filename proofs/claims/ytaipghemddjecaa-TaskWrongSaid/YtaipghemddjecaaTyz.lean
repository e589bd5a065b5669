import Derived.Test.YtaipghemddjecaaT3wz
namespace Go.Proofs.Ytaipghemddjecaa
open Go.RowKit
set_option linter.unusedVariables false
set_option linter.unusedSimpArgs false
set_option maxRecDepth 100000
theorem one_zero2 {ws : List ByteArray} (hw : apartB ws = true) {s : TS} (h0 : 0 ≤ s.a) (h1 : s.a ≤ s.t.size) (he : s.e = 0) (h : (oneR ws s).2.e ≠ 0) : (oneR ws s).1 = 0 := by
  unfold oneR at h ⊢
  rw [if_pos he] at h ⊢
  rcases oneA_cases h0 h1 hw with ⟨k, hk, hh, hz, e⟩ | ⟨hno, e⟩
  · exact absurd (show (oneZ s.t s.a ws).2.2 = 0 by rw [e]) h
  · show (oneZ s.t s.a ws).2.1 = 0
    rw [e]
theorem one_lt2 {ws : List ByteArray} (hw : apartB ws = true) {s : TS} (h0 : 0 ≤ s.a) (h1 : s.a ≤ s.t.size) (he : s.e = 0) (h : (oneR ws s).2.e = 0) : s.a < (oneR ws s).2.a ∧ 0 ≤ (oneR ws s).1 ∧ (oneR ws s).1 < (ws.length : Int) := by
  unfold oneR at h ⊢
  rw [if_pos he] at h ⊢
  exact (oneA_bd h0 h1 hw).2.2.2.1 h
theorem rest_none2 {s : TS} (h0 : 0 ≤ s.a) (h1 : s.a ≤ s.t.size) (he : s.e = 0) : (oneR (restW []) s).1 = 0 := by
  by_cases h : (oneR (restW []) s).2.e = 0
  · have := one_lt2 (restW_apart []) h0 h1 he h
    have h2 : (restW []).length = 1 := rfl
    omega
  · exact one_zero2 (restW_apart []) h0 h1 he h
def behO (i : Nat) (s : TS) : TS := if s.e = 0 then wordR nlB (optR i s) else s
theorem behO_good (i : Nat) : GoodF (behO i) := by
  have G : GoodF (fun s => wordR nlB (optR i s)) := (optR_good i).comp (word_good (w := nlB) (by decide)).toGoodF
  refine ⟨fun s hs => ?_, fun s m he h0 h1 => ?_⟩
  · unfold behO; rw [if_neg hs]; exact ⟨rfl, rfl, rfl⟩
  · unfold behO
    rw [if_pos he, if_pos (show (s.more m).e = 0 from he)]
    exact G.goes s m he h0 h1
theorem option_eq (L : List Nat) (s : TS) : (optionR L s).1 = behO (L.getD (oneR (L.map optN) s).1.toNat 0) (oneR (L.map optN) s).2 := by
  unfold optionR behO
  split <;> rfl
theorem option_good {L : List Nat} (hL : Opts L) (hne : L ≠ []) : GoodF (fun s => (optionR L s).1) := by
  have G := one_dep (names_apart hL hne) (g := fun n s => behO (L.getD n.toNat 0) s) (fun n => behO_good _)
  refine ⟨fun s hs => ?_, fun s m he h0 h1 => ?_⟩
  · rw [option_eq]; exact G.off s hs
  · rw [option_eq, option_eq]; exact G.goes s m he h0 h1
theorem option_e {L : List Nat} {s : TS} (h : (optionR L s).1.e = 0) : (oneR (L.map optN) s).2.e = 0 := by
  unfold optionR at h
  split at h
  · rename_i c; exact c
  · rename_i c; exact absurd h c
theorem option_left {L : List Nat} {s : TS} (hL : Opts L) (hne : L ≠ []) (m : ByteArray) (he : s.e = 0) (h0 : 0 ≤ s.a) (h1 : s.a ≤ s.t.size) (h : (optionR L s).1.e = 0) : (optionR L (s.more m)).2 = (optionR L s).2 := by
  have hx := option_e h
  have S := one_same (names_apart hL hne) m he h0 h1 (.inl hx)
  unfold optionR
  rw [S]
  dsimp only
  rw [if_pos hx, if_pos (show ((oneR (L.map optN) s).2.more m).e = 0 from hx)]
theorem option_len2 {L : List Nat} {s : TS} (hL : Opts L) (hne : L ≠ []) (h0 : 0 ≤ s.a) (h1 : s.a ≤ s.t.size) (he : s.e = 0) (h : (optionR L s).1.e = 0) : (optionR L s).2.length + 1 = L.length := by
  have c := option_e h
  have := (one_lt2 (names_apart hL hne) h0 h1 he c).2
  rw [List.length_map] at this
  unfold optionR
  rw [if_pos c]
  dsimp only
  rw [List.length_eraseIdx, if_pos (by omega)]
  omega
def RF (d : Nat) (L : List Nat) (s : TS) : TS := (restF d L s).1
theorem id_good : GoodF (fun s => s) := keep_good (fun _ => ⟨rfl, rfl, rfl⟩) (fun _ _ => rfl)
open Classical in
noncomputable def nextR (d : Nat) (L : List Nat) (n : Int) (s : TS) : TS := if n = 0 ∨ L = [] then s else (if Opts (optionR L s).2 then RF d (optionR L s).2 (optionR L s).1 else (optionR L s).1)
open Classical in
theorem next_good {d : Nat} {L : List Nat} (ih : ∀ L, Opts L → GoodF (RF d L)) (hL : Opts L) (n : Int) : GoodF (nextR d L n) := by
  unfold nextR
  by_cases c : n = 0 ∨ L = []
  · simp only [if_pos c]; exact id_good
  · simp only [if_neg c]
    have hne : L ≠ [] := fun h => c (.inr h)
    refine GoodF.dep (f := fun s => ((optionR L s).2, (optionR L s).1)) (g := fun L' s => if Opts L' then RF d L' s else s) (option_good hL hne) (fun L' => ?_) (fun s m he h0 h1 hz => ?_)
    · by_cases h : Opts L'
      · simp only [if_pos h]; exact ih L' h
      · simp only [if_neg h]; exact id_good
    · have G := (option_good hL hne).goes s m he h0 h1
      rcases G.ok hz with q | q
      · exact .inl ⟨option_left hL hne m he h0 h1 hz, q⟩
      · exact .inr q
theorem RF_eq {d : Nat} {L : List Nat} {s : TS} (hL : Opts L) (h0 : 0 ≤ s.a) (h1 : s.a ≤ s.t.size) (he : s.e = 0) : RF (d + 1) L s = nextR d L (oneR (restW L) s).1 (oneR (restW L) s).2 := by
  unfold RF nextR
  rw [restF, if_pos he]
  by_cases c : (oneR (restW L) s).1 = 0
  · rw [if_pos c, if_pos (.inl c)]
  · have hne : L ≠ [] := fun h => by subst h; exact c (rest_none2 h0 h1 he)
    rw [if_neg c, if_neg (fun h => h.elim c hne), if_pos (optionR_opts _ hL)]
    rfl
theorem RF_good : ∀ (d : Nat) (L : List Nat), Opts L → GoodF (RF d L)
  | 0, L, _ => id_good
  | d + 1, L, hL => by
    have G := one_dep (restW_apart L) (g := nextR d L) (fun n => next_good (RF_good d) hL n)
    refine ⟨fun s hs => ?_, fun s m he h0 h1 => ?_⟩
    · unfold RF; rw [restF_off hs]; exact ⟨rfl, rfl, rfl⟩
    · have hs := size_app s.t m
      rw [RF_eq hL h0 h1 he, RF_eq (s := s.more m) hL h0 (by show s.a ≤ ((s.t ++ m).size : Int); omega) he]
      exact G.goes s m he h0 h1
theorem RF_end {d : Nat} {L : List Nat} {s : TS} (h0 : 0 ≤ s.a) (h1 : s.a = s.t.size) (he : s.e = 0) : (RF (d + 1) L s).e ≠ 0 := by
  have hx : (oneR (restW L) s).2.e ≠ 0 := fun h => by
    have := one_lt2 (restW_apart L) h0 (by omega) he h
    have b := (one_good (restW_apart L)).toGoodF.bd he h0 (by omega)
    omega
  have hn := one_zero2 (restW_apart L) h0 (by omega) he hx
  unfold RF
  rw [restF, if_pos he, if_pos hn]
  exact hx
theorem RF_strict (m : ByteArray) : ∀ (d : Nat) (L : List Nat) (s : TS), Opts L → L.length + 2 ≤ d → s.e = 0 → 0 ≤ s.a → s.a ≤ s.t.size → (RF d L s).e = 0 → RF d L (s.more m) = (RF d L s).more m
  | 0, L, s, _, h, _, _, _, _ => by omega
  | d + 1, L, s, hL, hd, he, h0, h1, hz => by
    have W := restW_apart L
    unfold RF at hz ⊢
    rw [restF, if_pos he] at hz
    rw [restF, restF, if_pos he, if_pos (show (s.more m).e = 0 from he)]
    by_cases c : (oneR (restW L) s).1 = 0
    · rw [if_pos c] at hz ⊢
      have hx : (oneR (restW L) s).2.e = 0 := hz
      rw [one_same W m he h0 h1 (.inl hx)]
      dsimp only
      rw [if_pos c]
    · have hne : L ≠ [] := fun h => by subst h; exact c (rest_none2 h0 h1 he)
      have hx : (oneR (restW L) s).2.e = 0 := by
        by_cases h : (oneR (restW L) s).2.e = 0
        · exact h
        · exact absurd (one_zero2 W h0 h1 he h) c
      have bx := (one_good W).toGoodF.bd he h0 h1
      rw [if_neg c] at hz ⊢
      rw [one_same W m he h0 h1 (.inl hx)]
      dsimp only
      rw [if_neg c]
      generalize hX : (oneR (restW L) s).2 = X at hx bx hz ⊢
      have hXa : 0 ≤ X.a := by omega
      have hXs : X.a ≤ X.t.size := by rw [bx.1]; exact bx.2.2.1
      have hy : (optionR L X).1.e = 0 := by
        by_cases h : (optionR L X).1.e = 0
        · exact h
        · rw [restF_off h] at hz; exact absurd hz h
      have G := (option_good hL hne).goes X m hx hXa hXs
      have gY := (option_good hL hne).bd hx hXa hXs
      have hlen := option_len2 hL hne hXa hXs hx hy
      rcases G.ok hy with q | ⟨q1, q2⟩
      · rw [option_left hL hne m hx hXa hXs hy, q]
        exact RF_strict m d (optionR L X).2 (optionR L X).1 (optionR_opts X hL) (by omega) hy (by omega) (by rw [gY.1]; exact gY.2.2.1) hz
      · obtain ⟨d, rfl⟩ : ∃ k, d = k + 1 := ⟨d - 1, by omega⟩
        exact absurd hz (RF_end (d := d) (L := (optionR L X).2) (by omega) (by rw [gY.1]; exact q1) hy)
def preS (t : ByteArray) : TS := RF 9 allO (stipR (diagR (initS t)))
theorem readS_pre (t : ByteArray) : readS t = if (preS t).e = 0 ∧ (preS t).a < (preS t).t.size then { preS t with e := 2 } else preS t := rfl
theorem head_good : GoodF (fun s => stipR (diagR s)) := diag_good.comp stipR_good
theorem pre_gt (t m : ByteArray) : GT m (initS t) (preS t) (preS (t ++ m)) :=
  (head_good.comp (RF_good 9 allO (List.Sublist.refl _))).goes (initS t) m rfl (Int.le_refl _) (by show (0 : Int) ≤ (t.size : Int); omega)
theorem pre_strict (t m : ByteArray) (h : (preS t).e = 0) : preS (t ++ m) = (preS t).more m := by
  have z0 : (0 : Int) ≤ (t.size : Int) := by omega
  have G := head_good.goes (initS t) m rfl (Int.le_refl _) z0
  have b := head_good.bd (s := initS t) rfl (Int.le_refl _) z0
  have he : (stipR (diagR (initS t))).e = 0 := by
    by_cases q : (stipR (diagR (initS t))).e = 0
    · exact q
    · exfalso; unfold preS RF at h; rw [restF_off q] at h; exact q h
  have ha : 0 ≤ (stipR (diagR (initS t))).a := b.2.1
  have hsz : (stipR (diagR (initS t))).a ≤ ((stipR (diagR (initS t))).t.size : Int) := by rw [b.1]; exact b.2.2.1
  rcases G.ok he with q | ⟨q1, q2⟩
  · show RF 9 allO (stipR (diagR ((initS t).more m))) = _
    rw [q]
    exact RF_strict m 9 allO _ (List.Sublist.refl _) (by decide) he ha hsz h
  · exact absurd h (RF_end (d := 8) (L := allO) ha (by rw [b.1]; exact q1) he)
def endAt (t : ByteArray) : Int := if (readS t).e = 0 then ((readS t).t.size : Int) else (readS t).a
theorem wakes_is : i_alfillaw16_wakes.f 30000 = some true := by decide +kernel
theorem read_size {t : ByteArray} (h : t.size ≤ 1000) : i_task_Read.f 30000 t = some (outZ (readS t)) := by unfold i_task_Read.f; rw [if_pos h]
theorem out_place (t : ByteArray) : (outZ (readS t)).2.2.2.2.2.2.2.2.2.2.2.2.1 = endAt t := by unfold outZ endAt; split <;> rfl
theorem out_err (t : ByteArray) : (outZ (readS t)).2.2.2.2.2.2.2.2.2.2.2.2.2 = (readS t).e := by
  unfold outZ
  split
  · rename_i h; rw [h]
  · rfl
theorem read_goes (t m : ByteArray) : ((readS t).e = 2 ∧ (readS (t ++ m)).e = 2 ∧ endAt (t ++ m) = endAt t) ∨
    ((readS t).e = 1 ∧ endAt t = t.size ∧ endAt t ≤ endAt (t ++ m)) ∨
    ((readS t).e = 0 ∧ endAt t = t.size ∧ ((m.size = 0 ∧ (readS (t ++ m)).e = 0) ∨ (0 < m.size ∧ (readS (t ++ m)).e = 2 ∧ endAt (t ++ m) = endAt t))) := by
  have G := pre_gt t m
  have S := pre_strict t m
  have hs := size_app t m
  have et : (preS t).t = t := G.t
  have et' : (preS (t ++ m)).t = t ++ m := G.t'
  have le1 : (preS t).a ≤ (t.size : Int) := G.le
  have le2 : (preS (t ++ m)).a ≤ ((t ++ m).size : Int) := G.le'
  have ap := G.app; have lt := G.late; have on : (preS t).e = 1 → (preS t).a = (t.size : Int) := G.one
  unfold endAt
  rw [readS_pre, readS_pre, et, et']
  rcases G.ee with e0 | e1 | e2
  · have Y := S e0
    have ya : (preS (t ++ m)).a = (preS t).a := by rw [Y]; rfl
    have ye : (preS (t ++ m)).e = 0 := by rw [Y]; exact e0
    by_cases c : (preS t).a < (t.size : Int)
    · rw [if_pos ⟨e0, c⟩, if_pos ⟨ye, by omega⟩]
      exact .inl ⟨rfl, rfl, by rw [if_neg (show ¬ (2 : Int) = 0 by decide), if_neg (show ¬ (2 : Int) = 0 by decide)]; exact ya⟩
    · rw [if_neg (fun h => c h.2)]
      refine .inr (.inr ⟨e0, by rw [if_pos e0, et], ?_⟩)
      rw [if_pos e0, et]
      by_cases z : m.size = 0
      · rw [if_neg (fun h => by have := h.2; omega)]
        exact .inl ⟨z, ye⟩
      · rw [if_pos ⟨ye, by omega⟩]
        exact .inr ⟨by omega, rfl, by rw [if_neg (show ¬ (2 : Int) = 0 by decide)]; dsimp only; omega⟩
  · rw [if_neg (fun h => by have := h.1; omega)]
    refine .inr (.inl ⟨e1, by rw [if_neg (by omega)]; exact on e1, ?_⟩)
    rw [if_neg (show ¬ (preS t).e = 0 by omega), on e1]
    have l := lt e1
    have l2 : (t.size : Int) ≤ (preS (t ++ m)).a := l
    by_cases c : (preS (t ++ m)).e = 0 ∧ (preS (t ++ m)).a < ((t ++ m).size : Int)
    · rw [if_pos c, if_neg (show ¬ (2 : Int) = 0 by decide)]; exact l2
    · rw [if_neg c]
      split
      · rw [et']; omega
      · exact l2
  · obtain ⟨a1, a2⟩ := ap e2
    rw [if_neg (fun h => by have := h.1; omega), if_neg (fun h => by have := h.1; omega)]
    exact .inl ⟨e2, a2, by rw [if_neg (by omega), if_neg (by omega)]; exact a1⟩
theorem wrong_is (t m : ByteArray) : i_alfillaw16_TaskWrong.f 30000 t m = some true := by
  unfold i_alfillaw16_TaskWrong.f
  rw [wakes_is]
  simp only [Option.bind_some, if_true]
  by_cases h1 : (t.size : Int) > 300
  · rw [if_pos h1]
  · rw [if_neg h1]
    by_cases h2 : (m.size : Int) > 100
    · rw [if_pos h2]
    · have hs := size_app t m
      rw [if_neg h2, read_size (by omega)]
      simp only [Option.bind_some]
      rw [if_pos (by omega), read_size (by omega)]
      simp only [Option.bind_some]
      rw [out_place, out_place, out_err, out_err]
      rcases read_goes t m with ⟨a1, a2, a3⟩ | ⟨a1, a2, a3⟩ | ⟨a1, a2, ⟨a3, a4⟩ | ⟨a3, a4, a5⟩⟩
      · rw [if_pos a1, if_pos a2, a3]; simp
      · rw [if_neg (by omega), if_pos a1, if_pos a2, decide_eq_true a3]
      · rw [if_neg (by omega), if_neg (by omega), if_pos a1]
        have hm : m.toList = [] := by rw [ByteArray.toList_eq]; exact List.eq_nil_of_length_eq_zero (by simpa using a3)
        rw [if_pos hm, if_pos a4]
      · rw [if_neg (by omega), if_neg (by omega), if_pos a1]
        by_cases hm : m.toList = []
        · exfalso
          rw [ByteArray.toList_eq] at hm
          have : m.data.toList.length = 0 := by rw [hm]; rfl
          have h3 : m.size = 0 := by simpa using this
          omega
        · rw [if_neg hm, if_pos a4, a5]; simp
theorem walk_TaskWrong (t m : ByteArray) (ht : t.size ≤ maxLen) (hm : m.size ≤ maxLen) (w : World) :
    Calls Try.prog 3 #[.string t, .string m] w fun e w' => e = .returned (.bool true) ∧ Below w.heap.size w w' :=
  i_alfillaw16_TaskWrong.calls 30000 t m true w (wrong_is t m)
end Go.Proofs.Ytaipghemddjecaa
